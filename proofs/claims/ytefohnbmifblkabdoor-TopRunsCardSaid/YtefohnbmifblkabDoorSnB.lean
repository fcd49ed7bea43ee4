/-
  The walks of label.Trim and label.Find: each returns what the plain functions trim and find say, for every text of at most 2^63 - 1 bytes; nothing that was there is changed.
-/
import Derived.Test.YtefohnbmifblkabDoorPlA
import Derived.Test.YtefohnbmifblkabDoorMem
import Derived.Test.YtefohnbmifblkabDoorRows
import Derived.Test.YtefohnbmifblkabDoorShelf
import Derived.Shelf.Strings.SlTrimAscii
namespace Go.Proofs.YtefohnbmifblkabDoor
open Go.RowKit

theorem trim_any (s : ByteArray) (w : World) (hs : s.size ≤ 9223372036854775807) :
    Calls Tryd.prog 46 #[.string s, .string ⟨#[32, 9, 10, 12, 13]⟩] w fun e w' => e = .returned (.string ⟨(Lib.trimS s.data.toList Pl.spaces).toArray⟩) ∧ Below w.heap.size w w' :=
  Any.strings_Trim_laid Tryd.lays160 (by kernel_rfl) s ⟨#[32, 9, 10, 12, 13]⟩ w hs (by decide) (ascii_of_all (by decide))

theorem trimS_le (l cs : List UInt8) : (Lib.trimS l cs).length ≤ l.length := by
  unfold Lib.trimS Lib.trimLeftS Lib.trimRightS
  have h1 := (List.dropWhile_suffix (fun x => cs.contains x) (l := (List.dropWhile (fun x => cs.contains x) l.reverse).reverse)).length_le
  have h2 := (List.dropWhile_suffix (fun x => cs.contains x) (l := l.reverse)).length_le
  simp at h1 h2 ⊢
  omega

/-- the first k letters are small already. -/
def half (k : Nat) (l : List UInt8) : List UInt8 := (l.take k).map Pl.small ++ l.drop k
theorem half_len (k : Nat) (l : List UInt8) : (half k l).length = l.length := by
  unfold half
  simp
  omega
theorem half_at (k : Nat) (l : List UInt8) (h : k < l.length) : (half k l)[k]? = some l[k] := by
  unfold half
  rw [List.getElem?_append_right (by simp; omega)]
  simp [List.length_take, Nat.min_eq_left (Nat.le_of_lt h), List.getElem?_eq_getElem h]
theorem half_succ (k : Nat) (l : List UInt8) (h : k < l.length) : half (k + 1) l = (half k l).set k (Pl.small l[k]) := by
  unfold half
  rw [List.set_append_right _ _ (by simp; omega), List.take_succ_eq_append_getElem h, List.map_append, List.append_assoc]
  congr 1
  simp only [List.length_map, List.length_take, Nat.min_eq_left (Nat.le_of_lt h), Nat.sub_self]
  rw [List.drop_eq_getElem_cons h]
  rfl
theorem half_same (k : Nat) (l : List UInt8) (h : k < l.length) (hs : Pl.small l[k] = l[k]) : half (k + 1) l = half k l := by
  rw [half_succ k l h, hs]
  apply List.ext_getElem?
  intro j
  rcases Nat.decEq j k with hjk | rfl
  · rw [List.getElem?_set_ne (fun e => hjk e.symm)]
  · rw [List.getElem?_set_self (by rw [half_len]; exact h), half_at _ l h]
theorem half_zero (l : List UInt8) : half 0 l = l := by simp [half]
theorem half_all (l : List UInt8) : half l.length l = Pl.lower l := by simp [half, Pl.lower]

set_option maxHeartbeats 1000000 in
theorem labelTrim_any (s : ByteArray) (w : World) (hs : s.size ≤ maxLen) :
    Calls Tryd.prog 30 #[.string s] w fun e w' => e = .returned (.string ⟨(Pl.trim s.data.toList).toArray⟩) ∧ Below w.heap.size w w' := by
  unfold maxLen at hs
  obtain ⟨t, ht⟩ : ∃ t, Lib.trimS s.data.toList Pl.spaces = t := ⟨_, rfl⟩
  have htl : t.length ≤ s.size := by
    have := trimS_le s.data.toList Pl.spaces
    rw [ht] at this
    simpa using this
  have HT := Lib.hid ht
  clear ht
  go_enter Tryd.func30, Tryd.ntmps30
  go_wp2_with (go_at_call 46; refine (trim_any _ _ (by omega)).mono ?_; rintro e w1 ⟨rfl, hb1⟩; rw [HT.out]; obtain ⟨cap, w2, hconv, hrow, hb2, hz2⟩ := conv_bytes Tryd.underlying9 Tryd.underlying51 Tryd.underlying5 ⟨t.toArray⟩ w1; have hs1 := hb1.size; obtain ⟨g, hg⟩ : ∃ g, w1.heap.size = g := ⟨_, rfl⟩; rw [hg] at hconv hrow hb2 hz2 hs1; clear hg)
  have hbw := hb1.trans (hb2.mono hs1)
  clear hconv
  go_loopw [12] (fun i wr => Below w.heap.size w wr ∧ ∃ k : Nat, k ≤ t.length ∧ i = .int .i64 k ∧ BRow wr g (half k t)) (fun i _ => t.length - (intOf i).toNat)
  case atStart => exact ⟨hbw, 0, by omega, rfl, by rw [half_zero]; exact hrow⟩
  case round =>
    obtain ⟨hb, k, hk, rfl, hr⟩ := hrel
    by_cases hlt : k < t.length
    · obtain ⟨c, hc⟩ : ∃ c, t[k] = c := ⟨_, rfl⟩
      obtain ⟨hcell, hfr⟩ := hr k c (by rw [half_at k t hlt, hc])
      have hc256 : c.toNat < 256 := c.toNat_lt
      have HS := Lib.hid (half_succ k t hlt)
      have HN := Lib.hid (half_same k t hlt)
      rw [hc] at HS HN
      clear hc
      by_cases h1 : 65 ≤ c.toNat
      · by_cases h2 : c.toNat ≤ 90
        · have HU := Lib.hid (show ((Pl.small c).toNat : Int) = (c.toNat : Int) + 97 - 65 by rw [Pl.small_up h1 h2]; omega)
          go_wp2
          go_roundw
          case rel => exact ⟨hb.setCell hs1 _, k + 1, by omega, by go_num, by rw [HS.out]; have := hr.set_ k (Pl.small c) (by rw [half_len]; exact hlt); rw [HU.out] at this; exact this⟩
          case measure => simp [intOf]; omega
        · go_wp2
          go_roundw
          case rel => exact ⟨hb, k + 1, by omega, by go_num, by rw [HN.out (Pl.small_no (by omega))]; exact hr⟩
          case measure => simp [intOf]; omega
      · go_wp2
        go_roundw
        case rel => exact ⟨hb, k + 1, by omega, by go_num, by rw [HN.out (Pl.small_no (by omega))]; exact hr⟩
        case measure => simp [intOf]; omega
    · obtain rfl : k = t.length := by omega
      have hback := conv_back (P := Tryd.prog) (cap := cap) Tryd.underlying51 Tryd.underlying5 Tryd.underlying9 hr (by rw [half_len])
      go_wp2
      go_ret
      exact ⟨ret_str (by unfold Pl.trim; rw [HT.out, half_all]), hb⟩

theorem look_cases (t : List UInt8) :
    (∃ p ∈ Pl.names, t = p.1) ∨ ∀ p ∈ Pl.names, (t == p.1) = false := by
  by_cases h : ∃ p ∈ Pl.names, t = p.1
  · exact .inl h
  · exact .inr fun p hp => beq_eq_false_iff_ne.2 fun e => h ⟨p, hp, e⟩

set_option maxHeartbeats 4000000 in
theorem find_any (s : ByteArray) (w : World) (hs : s.size ≤ maxLen) :
    Calls Tryd.prog 19 #[.string s] w fun e w' => e = .returned (.int .i64 (Pl.find s.data.toList)) ∧ Below w.heap.size w w' := by
  have hs' := hs
  unfold maxLen at hs'
  by_cases h40 : 40 < s.size
  · have HF := Lib.hid (show Pl.find s.data.toList = 0 by unfold Pl.find; rw [if_pos (by simpa using h40)])
    rw [HF.out]
    go_enter Tryd.func19, Tryd.ntmps19
    go_wp2
    go_ret
    exact ⟨rfl, Below.refl _ _⟩
  · obtain ⟨t, ht⟩ : ∃ t, Pl.trim s.data.toList = t := ⟨_, rfl⟩
    have HF := Lib.hid (show Pl.find s.data.toList = Pl.look t Pl.names by unfold Pl.find; rw [if_neg (by simpa using h40), ht])
    rw [HF.out]
    clear HF
    have H40 : s.size ≤ 40 := by omega
    clear h40
    rcases look_cases t with h | h
    · have hf : ∀ n, Pl.look t Pl.names = n → Calls Tryd.prog 19 #[.string s] w fun e w' => e = .returned (.int .i64 n) ∧ Below w.heap.size w w' := by
        intro n hn
        simp only [Pl.names, List.mem_cons, List.mem_nil_iff, or_false, exists_eq_or_imp, exists_eq_left] at h
        rcases h with rfl | rfl | rfl | rfl | rfl | rfl | rfl | rfl | rfl | rfl | rfl | rfl | rfl | rfl | rfl | rfl
        all_goals
          have HN := Lib.hid hn
          clear hn
          have HT := Lib.hid ht
          clear ht
          go_enter Tryd.func19, Tryd.ntmps19
          go_wp2_with (go_at_call 30; refine (labelTrim_any _ _ hs).mono ?_; rintro e w1 ⟨rfl, hb1⟩; rw [HT.out])
          go_ret
          exact ⟨ret_int (by rw [← HN.out]; rfl), hb1⟩
      exact hf _ rfl
    · have hn : Pl.look t Pl.names = 0 := by
        have : ∀ l : List (List UInt8 × Int), (∀ p ∈ l, (t == p.1) = false) → Pl.look t l = 0 := by
          intro l
          induction l with
          | nil => intro _; rfl
          | cons p r ih =>
            intro hl
            unfold Pl.look
            rw [if_neg (beq_eq_false_iff_ne.1 (hl p (by simp)))]
            exact ih fun q hq => hl q (by simp [hq])
        exact this _ h
      rw [hn]
      clear hn
      simp only [Pl.names, List.mem_cons, List.mem_nil_iff, or_false, forall_eq_or_imp, forall_eq] at h
      obtain ⟨a1, a2, a3, a4, a5, a6, a7, a8, a9, a10, a11, a12, a13, a14, a15, a16⟩ := h
      have HT := Lib.hid ht
      clear ht
      go_enter Tryd.func19, Tryd.ntmps19
      go_wp2_with (go_at_call 30; refine (labelTrim_any _ _ hs).mono ?_; rintro e w1 ⟨rfl, hb1⟩; rw [HT.out])
      go_ret
      exact ⟨rfl, hb1⟩
end Go.Proofs.YtefohnbmifblkabDoor
