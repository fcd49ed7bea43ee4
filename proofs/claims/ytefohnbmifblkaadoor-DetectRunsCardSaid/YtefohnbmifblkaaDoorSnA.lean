/-
  The walks of sniff.small and sniff.at: each returns what the plain functions small and atK say.
-/
import Derived.Test.YtefohnbmifblkaaDoorPlA
import Derived.Test.YtefohnbmifblkaaDoorRows
import Derived.Test.YtefohnbmifblkaaDoorMem
import Derived.Test.YtefohnbmifblkaaDoorShelf
import Derived.Shelf.Strings.SlTrimAscii
namespace Go.Proofs.YtefohnbmifblkaaDoor
open Go.RowKit

set_option maxHeartbeats 400000 in
theorem small_any (c : UInt8) (w : World) : Calls Tryd.prog 57 #[.int .u8 c.toNat] w fun e w' => e = .returned (.int .u8 (Pl.small c).toNat) ∧ w = w' := by
  have hc : c.toNat < 256 := c.toNat_lt
  by_cases h : 65 ≤ c.toNat ∧ c.toNat ≤ 90
  · obtain ⟨h1, h2⟩ := h
    rw [Pl.small_up h1 h2]
    go_enter Tryd.func57, Tryd.ntmps57
    go_wp2
    go_ret
    exact ⟨ret_int (by omega), rfl⟩
  · rw [Pl.small_no h]
    by_cases h1 : 65 ≤ c.toNat
    · have h2 : ¬ c.toNat ≤ 90 := fun x => h ⟨h1, x⟩
      clear h
      go_enter Tryd.func57, Tryd.ntmps57
      go_wp2
      go_ret
      exact ⟨rfl, rfl⟩
    · clear h
      go_enter Tryd.func57, Tryd.ntmps57
      go_wp2
      go_ret
      exact ⟨rfl, rfl⟩

theorem ret_bools {a b c d : Bool} (h : (a, b) = (c, d)) : Ending.returned (.tuple #[.bool a, .bool b]) = .returned (.tuple #[.bool c, .bool d]) := by
  cases h; rfl

theorem atK_eq (l : List UInt8) (k : Nat) (hk : k < 8) : Pl.atK (Pl.key.drop k) l = match l with
    | [] => (false, true)
    | b :: bs => if Pl.small b = Pl.key[k]'(by simpa [Pl.key] using hk) then Pl.atK (Pl.key.drop (k + 1)) bs else (false, false) := by
  rw [List.drop_eq_getElem_cons (by simpa [Pl.key] using hk)]
  cases l with
  | nil => rfl
  | cons b bs => rfl

theorem drop_data (s : ByteArray) (i : Nat) (h : i < s.size) : s.data.toList.drop i = s[i] :: s.data.toList.drop (i + 1) := by
  rw [List.drop_eq_getElem_cons (by simpa using h)]
  rfl
theorem at_no (s : ByteArray) (i k : Nat) (h8 : k < 8) (hlt : i + k < s.size) (hk : k < (ByteArray.mk #[99, 104, 97, 114, 115, 101, 116, 61]).size)
    (h : (((Pl.small s[i + k]).toNat : Int) != ((ByteArray.mk #[99, 104, 97, 114, 115, 101, 116, 61])[k]).toNat) = true) : Pl.atK (Pl.key.drop k) (s.data.toList.drop (i + k)) = (false, false) := by
  rw [atK_eq _ _ h8, drop_data s _ hlt]
  refine if_neg fun e => ?_
  rw [e] at h
  exact absurd h (by simp [Pl.key]; rfl)
theorem at_yes (s : ByteArray) (i k : Nat) (h8 : k < 8) (hlt : i + k < s.size) (hk : k < (ByteArray.mk #[99, 104, 97, 114, 115, 101, 116, 61]).size)
    (h : (((Pl.small s[i + k]).toNat : Int) != ((ByteArray.mk #[99, 104, 97, 114, 115, 101, 116, 61])[k]).toNat) = false) : Pl.atK (Pl.key.drop (k + 1)) (s.data.toList.drop (i + (k + 1))) = Pl.atK (Pl.key.drop k) (s.data.toList.drop (i + k)) := by
  rw [atK_eq _ k h8, drop_data s _ hlt]
  refine (if_pos ?_).symm
  have h1 : ((Pl.small s[i + k]).toNat : Int) = ((ByteArray.mk #[99, 104, 97, 114, 115, 101, 116, 61])[k]).toNat := by simpa using h
  have h2 : (Pl.small s[i + k]).toNat = ((ByteArray.mk #[99, 104, 97, 114, 115, 101, 116, 61])[k]).toNat := by omega
  exact UInt8.toNat_inj.1 h2

set_option maxHeartbeats 1000000 in
theorem at_any (s : ByteArray) (i : Nat) (hs : s.size ≤ maxLen) (hi : i ≤ s.size) (hb : s.size < 4294967281) (w : World) :
    Calls Tryd.prog 42 #[.string s, .int .i64 i] w fun e w' =>
      e = .returned (.tuple #[.bool (Pl.atK Pl.key (s.data.toList.drop i)).1, .bool (Pl.atK Pl.key (s.data.toList.drop i)).2]) ∧ Drew w w' := by
  unfold maxLen at hs
  obtain ⟨A, hA⟩ : ∃ A, Pl.atK Pl.key (s.data.toList.drop i) = A := ⟨_, rfl⟩
  have HA := Lib.hid hA
  rw [hA]
  clear hA
  go_enter Tryd.func42, Tryd.ntmps42
  go_wp2
  go_loopw [7] (fun j wr => Drew w wr ∧ ∃ k : Nat, k ≤ 8 ∧ i + k ≤ s.size ∧ j = .int .i64 k ∧ Hid (Pl.atK (Pl.key.drop k) (s.data.toList.drop (i + k)) = A)) (fun j _ => 8 - (intOf j).toNat)
  case atStart => exact ⟨Drew.refl w, 0, by omega, by omega, rfl, HA⟩
  case round =>
    obtain ⟨hw, k, hk, hik, rfl, HK⟩ := hrel
    clear HA
    by_cases h8 : k < 8
    · by_cases hlt : i + k < s.size
      · have e1 : IntKind.i64.wrap ((i : Int) + (k : Int)) = (i : Int) + (k : Int) := IntWalk.i64_in _ (by omega)
        have e2 : (0 : Int) ≤ (i : Int) + (k : Int) := by omega
        have e3 : ((i : Int) + (k : Int)).toNat = i + k := by omega
        have e4 : (i : Int) + (k : Int) < (s.size : Int) := by omega
        have e5 : (k : Int) < 8 := by omega
        go_wp2
        go_quiet ((go_at_call 57; exact quiet_left (small_any _ _)))
        go_wp2
        · go_ret2
          exact ⟨by rw [← HK.out, at_no s i k h8 hlt _ ‹_›]; rfl, hw.drewN _⟩
        · go_roundw
          case rel => exact ⟨hw.drewN _, k + 1, by omega, by omega, by go_num, (at_yes s i k h8 hlt _ ‹_›).trans HK.out⟩
          case measure => simp [intOf]; omega
      · go_wp2
        go_ret2
        rw [HK.out.symm, atK_eq _ _ h8, List.drop_of_length_le (l := s.data.toList) (by simp; omega)]
        exact ⟨rfl, hw⟩
    · go_wp2
      go_ret2
      obtain rfl : k = 8 := by omega
      rw [HK.out.symm]
      exact ⟨rfl, hw⟩
end Go.Proofs.YtefohnbmifblkaaDoor

/-
  The walks of label.Trim and label.Find: each returns what the plain functions trim and find say, for every text of at most 2^63 - 1 bytes; nothing that was there is changed.
-/
namespace Go.Proofs.YtefohnbmifblkaaDoor
open Go.RowKit

theorem trim_any (s : ByteArray) (w : World) (hs : s.size ≤ 9223372036854775807) :
    Calls Tryd.prog 77 #[.string s, .string ⟨#[32, 9, 10, 12, 13]⟩] w fun e w' => e = .returned (.string ⟨(Lib.trimS s.data.toList Pl.spaces).toArray⟩) ∧ Below w.heap.size w w' :=
  Any.strings_Trim_laid Tryd.lays160 (by kernel_rfl) s ⟨#[32, 9, 10, 12, 13]⟩ w hs (by decide) (ascii_of_all (by decide))

theorem trimS_le (l cs : List UInt8) : (Lib.trimS l cs).length ≤ l.length := by
  unfold Lib.trimS Lib.trimLeftS Lib.trimRightS
  have h1 := (List.dropWhile_suffix (fun x => cs.contains x) (l := (List.dropWhile (fun x => cs.contains x) l.reverse).reverse)).length_le
  have h2 := (List.dropWhile_suffix (fun x => cs.contains x) (l := l.reverse)).length_le
  simp at h1 h2 ⊢
  omega

/-- the first k letters are small already. -/
def half (k : Nat) (l : List UInt8) : List UInt8 := (l.take k).map Pl.small ++ l.drop k
theorem half_len (k : Nat) (l : List UInt8) : (half k l).length = l.length := by
  unfold half
  simp
  omega
theorem half_at (k : Nat) (l : List UInt8) (h : k < l.length) : (half k l)[k]? = some l[k] := by
  unfold half
  rw [List.getElem?_append_right (by simp; omega)]
  simp [List.length_take, Nat.min_eq_left (Nat.le_of_lt h), List.getElem?_eq_getElem h]
theorem half_succ (k : Nat) (l : List UInt8) (h : k < l.length) : half (k + 1) l = (half k l).set k (Pl.small l[k]) := by
  unfold half
  rw [List.set_append_right _ _ (by simp; omega), List.take_succ_eq_append_getElem h, List.map_append, List.append_assoc]
  congr 1
  simp only [List.length_map, List.length_take, Nat.min_eq_left (Nat.le_of_lt h), Nat.sub_self]
  rw [List.drop_eq_getElem_cons h]
  rfl
theorem half_same (k : Nat) (l : List UInt8) (h : k < l.length) (hs : Pl.small l[k] = l[k]) : half (k + 1) l = half k l := by
  rw [half_succ k l h, hs]
  apply List.ext_getElem?
  intro j
  rcases Nat.decEq j k with hjk | rfl
  · rw [List.getElem?_set_ne (fun e => hjk e.symm)]
  · rw [List.getElem?_set_self (by rw [half_len]; exact h), half_at _ l h]
theorem half_zero (l : List UInt8) : half 0 l = l := by simp [half]
theorem half_all (l : List UInt8) : half l.length l = Pl.lower l := by simp [half, Pl.lower]

set_option maxHeartbeats 1000000 in
theorem labelTrim_any (s : ByteArray) (w : World) (hs : s.size ≤ maxLen) :
    Calls Tryd.prog 59 #[.string s] w fun e w' => e = .returned (.string ⟨(Pl.trim s.data.toList).toArray⟩) ∧ Below w.heap.size w w' := by
  unfold maxLen at hs
  obtain ⟨t, ht⟩ : ∃ t, Lib.trimS s.data.toList Pl.spaces = t := ⟨_, rfl⟩
  have htl : t.length ≤ s.size := by
    have := trimS_le s.data.toList Pl.spaces
    rw [ht] at this
    simpa using this
  have HT := Lib.hid ht
  clear ht
  go_enter Tryd.func59, Tryd.ntmps59
  go_wp2_with (go_at_call 77; refine (trim_any _ _ (by omega)).mono ?_; rintro e w1 ⟨rfl, hb1⟩; rw [HT.out]; obtain ⟨cap, w2, hconv, hrow, hb2, hz2⟩ := conv_bytes Tryd.underlying9 Tryd.underlying69 Tryd.underlying5 ⟨t.toArray⟩ w1; have hs1 := hb1.size; obtain ⟨g, hg⟩ : ∃ g, w1.heap.size = g := ⟨_, rfl⟩; rw [hg] at hconv hrow hb2 hz2 hs1; clear hg)
  have hbw := hb1.trans (hb2.mono hs1)
  clear hconv
  go_loopw [12] (fun i wr => Below w.heap.size w wr ∧ ∃ k : Nat, k ≤ t.length ∧ i = .int .i64 k ∧ BRow wr g (half k t)) (fun i _ => t.length - (intOf i).toNat)
  case atStart => exact ⟨hbw, 0, by omega, rfl, by rw [half_zero]; exact hrow⟩
  case round =>
    obtain ⟨hb, k, hk, rfl, hr⟩ := hrel
    by_cases hlt : k < t.length
    · obtain ⟨c, hc⟩ : ∃ c, t[k] = c := ⟨_, rfl⟩
      obtain ⟨hcell, hfr⟩ := hr k c (by rw [half_at k t hlt, hc])
      have hc256 : c.toNat < 256 := c.toNat_lt
      have HS := Lib.hid (half_succ k t hlt)
      have HN := Lib.hid (half_same k t hlt)
      rw [hc] at HS HN
      clear hc
      by_cases h1 : 65 ≤ c.toNat
      · by_cases h2 : c.toNat ≤ 90
        · have HU := Lib.hid (show ((Pl.small c).toNat : Int) = (c.toNat : Int) + 97 - 65 by rw [Pl.small_up h1 h2]; omega)
          go_wp2
          go_roundw
          case rel => exact ⟨hb.setCell hs1 _, k + 1, by omega, by go_num, by rw [HS.out]; have := hr.set_ k (Pl.small c) (by rw [half_len]; exact hlt); rw [HU.out] at this; exact this⟩
          case measure => simp [intOf]; omega
        · go_wp2
          go_roundw
          case rel => exact ⟨hb, k + 1, by omega, by go_num, by rw [HN.out (Pl.small_no (by omega))]; exact hr⟩
          case measure => simp [intOf]; omega
      · go_wp2
        go_roundw
        case rel => exact ⟨hb, k + 1, by omega, by go_num, by rw [HN.out (Pl.small_no (by omega))]; exact hr⟩
        case measure => simp [intOf]; omega
    · obtain rfl : k = t.length := by omega
      have hback := conv_back (P := Tryd.prog) (cap := cap) Tryd.underlying69 Tryd.underlying5 Tryd.underlying9 hr (by rw [half_len])
      go_wp2
      go_ret
      exact ⟨ret_str (by unfold Pl.trim; rw [HT.out, half_all]), hb⟩

theorem look_cases (t : List UInt8) :
    (∃ p ∈ Pl.names, t = p.1) ∨ ∀ p ∈ Pl.names, (t == p.1) = false := by
  by_cases h : ∃ p ∈ Pl.names, t = p.1
  · exact .inl h
  · exact .inr fun p hp => beq_eq_false_iff_ne.2 fun e => h ⟨p, hp, e⟩

set_option maxHeartbeats 4000000 in
theorem find_any (s : ByteArray) (w : World) (hs : s.size ≤ maxLen) :
    Calls Tryd.prog 44 #[.string s] w fun e w' => e = .returned (.int .i64 (Pl.find s.data.toList)) ∧ Below w.heap.size w w' := by
  have hs' := hs
  unfold maxLen at hs'
  by_cases h40 : 40 < s.size
  · have HF := Lib.hid (show Pl.find s.data.toList = 0 by unfold Pl.find; rw [if_pos (by simpa using h40)])
    rw [HF.out]
    go_enter Tryd.func44, Tryd.ntmps44
    go_wp2
    go_ret
    exact ⟨rfl, Below.refl _ _⟩
  · obtain ⟨t, ht⟩ : ∃ t, Pl.trim s.data.toList = t := ⟨_, rfl⟩
    have HF := Lib.hid (show Pl.find s.data.toList = Pl.look t Pl.names by unfold Pl.find; rw [if_neg (by simpa using h40), ht])
    rw [HF.out]
    clear HF
    have H40 : s.size ≤ 40 := by omega
    clear h40
    rcases look_cases t with h | h
    · have hf : ∀ n, Pl.look t Pl.names = n → Calls Tryd.prog 44 #[.string s] w fun e w' => e = .returned (.int .i64 n) ∧ Below w.heap.size w w' := by
        intro n hn
        simp only [Pl.names, List.mem_cons, List.mem_nil_iff, or_false, exists_eq_or_imp, exists_eq_left] at h
        rcases h with rfl | rfl | rfl | rfl | rfl | rfl | rfl | rfl | rfl | rfl | rfl | rfl | rfl | rfl | rfl | rfl
        all_goals
          have HN := Lib.hid hn
          clear hn
          have HT := Lib.hid ht
          clear ht
          go_enter Tryd.func44, Tryd.ntmps44
          go_wp2_with (go_at_call 59; refine (labelTrim_any _ _ hs).mono ?_; rintro e w1 ⟨rfl, hb1⟩; rw [HT.out])
          go_ret
          exact ⟨ret_int (by rw [← HN.out]; rfl), hb1⟩
      exact hf _ rfl
    · have hn : Pl.look t Pl.names = 0 := by
        have : ∀ l : List (List UInt8 × Int), (∀ p ∈ l, (t == p.1) = false) → Pl.look t l = 0 := by
          intro l
          induction l with
          | nil => intro _; rfl
          | cons p r ih =>
            intro hl
            unfold Pl.look
            rw [if_neg (beq_eq_false_iff_ne.1 (hl p (by simp)))]
            exact ih fun q hq => hl q (by simp [hq])
        exact this _ h
      rw [hn]
      clear hn
      simp only [Pl.names, List.mem_cons, List.mem_nil_iff, or_false, forall_eq_or_imp, forall_eq] at h
      obtain ⟨a1, a2, a3, a4, a5, a6, a7, a8, a9, a10, a11, a12, a13, a14, a15, a16⟩ := h
      have HT := Lib.hid ht
      clear ht
      go_enter Tryd.func44, Tryd.ntmps44
      go_wp2_with (go_at_call 59; refine (labelTrim_any _ _ hs).mono ?_; rintro e w1 ⟨rfl, hb1⟩; rw [HT.out])
      go_ret
      exact ⟨rfl, hb1⟩
end Go.Proofs.YtefohnbmifblkaaDoor

/-
  The walks of sniff.Mark and sniff.MayMark, in every world that holds the two tables of marks: they return what the plain functions mark and mayMark say; nothing that was there is changed.
-/
namespace Go.Proofs.YtefohnbmifblkaaDoor
open Go.RowKit

/-- The program's two tables, as their initialisers lay them. -/
structure Gl (w : World) : Prop where
  m0 : w.cell? ⟨0, 0, none⟩ = some (.string ⟨#[]⟩)
  m1 : w.cell? ⟨0, 1, none⟩ = some (.string ⟨#[239, 187, 191]⟩)
  m2 : w.cell? ⟨0, 2, none⟩ = some (.string ⟨#[255, 254]⟩)
  m3 : w.cell? ⟨0, 3, none⟩ = some (.string ⟨#[254, 255]⟩)
  e0 : w.cell? ⟨1, 0, none⟩ = some (.int .i64 0)
  e1 : w.cell? ⟨1, 1, none⟩ = some (.int .i64 1)
  e2 : w.cell? ⟨1, 2, none⟩ = some (.int .i64 5)
  e3 : w.cell? ⟨1, 3, none⟩ = some (.int .i64 6)

theorem Gl.below {w w' : World} (h : Gl w) (hb : Below w.heap.size w w') : Gl w' := by
  obtain ⟨hc, _⟩ := bcell hb
  have b0 := lt_of_cell h.m0
  have b1 := lt_of_cell h.e0
  exact ⟨(hc _ _ b0).trans h.m0, (hc _ _ b0).trans h.m1, (hc _ _ b0).trans h.m2, (hc _ _ b0).trans h.m3, (hc _ _ b1).trans h.e0, (hc _ _ b1).trans h.e1, (hc _ _ b1).trans h.e2, (hc _ _ b1).trans h.e3⟩
theorem Gl.drew {w w' : World} (h : Gl w) (hd : Drew w w') : Gl w' := h.below hd.below

set_option maxHeartbeats 1000000 in
theorem mark_any (s : ByteArray) (w : World) (hg : Gl w) :
    Calls Tryd.prog 17 #[.string s] w fun e w' => e = .returned (.tuple #[.int .i64 (Pl.mark s.data.toList).1, .int .i64 (Pl.mark s.data.toList).2]) ∧ Drew w w' := by
  obtain ⟨P1, h1⟩ : ∃ P, Lib.hasPrefix s.data.toList [239, 187, 191] = P := ⟨_, rfl⟩
  obtain ⟨P2, h2⟩ : ∃ P, Lib.hasPrefix s.data.toList [255, 254] = P := ⟨_, rfl⟩
  obtain ⟨P3, h3⟩ : ∃ P, Lib.hasPrefix s.data.toList [254, 255] = P := ⟨_, rfl⟩
  have hm : Pl.mark s.data.toList = if P1 = true then (1, 3) else if P2 = true then (5, 2) else if P3 = true then (6, 2) else (0, 0) := by
    unfold Pl.mark
    rw [← h1, ← h2, ← h3]
    rfl
  rw [hm]
  clear hm
  have H1 := Lib.hid h1
  have H2 := Lib.hid h2
  have H3 := Lib.hid h3
  clear h1 h2 h3
  obtain ⟨m0, m1, m2, m3, e0, e1, e2, e3⟩ := hg
  go_enter Tryd.func17, Tryd.ntmps17
  go_wp2
  go_loopw [8] (fun i wr => Drew w wr ∧ (i = .int .i64 0 ∨ i = .int .i64 1 ∨ (i = .int .i64 2 ∧ P1 = false) ∨ (i = .int .i64 3 ∧ P1 = false ∧ P2 = false) ∨ (i = .int .i64 4 ∧ P1 = false ∧ P2 = false ∧ P3 = false))) (fun i _ => 4 - (intOf i).toNat)
  case atStart => exact ⟨Drew.refl _, .inl rfl⟩
  case round =>
    obtain ⟨hd, hrel⟩ := hrel
    have hc := hd.cell
    rw [← hc] at m0 m1 m2 m3 e0 e1 e2 e3
    clear hc
    rcases hrel with rfl | rfl | ⟨rfl, rfl⟩ | ⟨rfl, rfl, rfl⟩ | ⟨rfl, rfl, rfl, rfl⟩
    · go_wp2
      go_roundw
      case rel => exact ⟨hd, .inr (.inl rfl)⟩
      case measure => simp [intOf]
    · cases P1
      · go_wp2_with (go_at_call 45; refine (Tryd.strings_HasPrefix _ _ _).mono ?_; rintro e w1 ⟨rfl, hw⟩; subst hw; rw [show (⟨#[239, 187, 191]⟩ : ByteArray).data.toList = [239, 187, 191] from rfl, H1.out])
        go_roundw
        case rel => exact ⟨hd, .inr (.inr (.inl ⟨rfl, trivial⟩))⟩
        case measure => simp [intOf]
      · go_wp2_with (go_at_call 45; refine (Tryd.strings_HasPrefix _ _ _).mono ?_; rintro e w1 ⟨rfl, hw⟩; subst hw; rw [show (⟨#[239, 187, 191]⟩ : ByteArray).data.toList = [239, 187, 191] from rfl, H1.out])
        go_ret2
        exact ⟨rfl, hd⟩
    · cases P2
      · go_wp2_with (go_at_call 45; refine (Tryd.strings_HasPrefix _ _ _).mono ?_; rintro e w1 ⟨rfl, hw⟩; subst hw; rw [show (⟨#[255, 254]⟩ : ByteArray).data.toList = [255, 254] from rfl, H2.out])
        go_roundw
        case rel => exact ⟨hd, .inr (.inr (.inr (.inl ⟨rfl, trivial, trivial⟩)))⟩
        case measure => simp [intOf]
      · go_wp2_with (go_at_call 45; refine (Tryd.strings_HasPrefix _ _ _).mono ?_; rintro e w1 ⟨rfl, hw⟩; subst hw; rw [show (⟨#[255, 254]⟩ : ByteArray).data.toList = [255, 254] from rfl, H2.out])
        go_ret2
        exact ⟨rfl, hd⟩
    · cases P3
      · go_wp2_with (go_at_call 45; refine (Tryd.strings_HasPrefix _ _ _).mono ?_; rintro e w1 ⟨rfl, hw⟩; subst hw; rw [show (⟨#[254, 255]⟩ : ByteArray).data.toList = [254, 255] from rfl, H3.out])
        go_roundw
        case rel => exact ⟨hd, .inr (.inr (.inr (.inr ⟨rfl, trivial, trivial, trivial⟩)))⟩
        case measure => simp [intOf]
      · go_wp2_with (go_at_call 45; refine (Tryd.strings_HasPrefix _ _ _).mono ?_; rintro e w1 ⟨rfl, hw⟩; subst hw; rw [show (⟨#[254, 255]⟩ : ByteArray).data.toList = [254, 255] from rfl, H3.out])
        go_ret2
        exact ⟨rfl, hd⟩
    · go_wp2
      go_ret2
      exact ⟨rfl, hd⟩

theorem may_in (m : List UInt8) (s : ByteArray) (h : s.size < m.length) : (((⟨m.toArray⟩ : ByteArray).extract 0 s.size).toList == s.toList) = Pl.may1 m s.data.toList := by
  unfold Pl.may1
  rw [Lib.toList_data, Lib.toList_data, Lib.extract_data, ← Lib.size_eq, decide_eq_true h, Bool.true_and]
  rfl
theorem may_out (m : List UInt8) (s : ByteArray) (h : ¬ s.size < m.length) : Pl.may1 m s.data.toList = false := by
  unfold Pl.may1
  rw [← Lib.size_eq, decide_eq_false h, Bool.false_and]

set_option maxHeartbeats 1000000 in
theorem mayMark_any (s : ByteArray) (w : World) (hg : Gl w) (hs : s.size ≤ maxLen) :
    Calls Tryd.prog 18 #[.string s] w fun e w' => e = .returned (.bool (Pl.mayMark s.data.toList)) ∧ Drew w w' := by
  unfold maxLen at hs
  obtain ⟨P1, h1⟩ : ∃ P, Pl.may1 [239, 187, 191] s.data.toList = P := ⟨_, rfl⟩
  obtain ⟨P2, h2⟩ : ∃ P, Pl.may1 [255, 254] s.data.toList = P := ⟨_, rfl⟩
  obtain ⟨P3, h3⟩ : ∃ P, Pl.may1 [254, 255] s.data.toList = P := ⟨_, rfl⟩
  have hm : Pl.mayMark s.data.toList = (P1 || P2 || P3) := by
    unfold Pl.mayMark
    rw [h1, h2, h3]
  rw [hm]
  clear hm
  have H1 := Lib.hid h1
  have H2 := Lib.hid h2
  have H3 := Lib.hid h3
  clear h1 h2 h3
  obtain ⟨m0, m1, m2, m3, e0, e1, e2, e3⟩ := hg
  clear e0 e1 e2 e3
  go_enter Tryd.func18, Tryd.ntmps18
  go_wp2
  go_loopw [7] (fun i wr => Drew w wr ∧ (i = .int .i64 0 ∨ (i = .int .i64 1 ∧ P1 = false) ∨ (i = .int .i64 2 ∧ P1 = false ∧ P2 = false) ∨ (i = .int .i64 3 ∧ P1 = false ∧ P2 = false ∧ P3 = false))) (fun i _ => 4 - (intOf i).toNat)
  case atStart => exact ⟨Drew.refl _, .inl rfl⟩
  case round =>
    obtain ⟨hd, hrel⟩ := hrel
    have hc := hd.cell
    rw [← hc] at m0 m1 m2 m3
    clear hc
    rcases hrel with rfl | ⟨rfl, rfl⟩ | ⟨rfl, rfl, rfl⟩ | ⟨rfl, rfl, rfl, rfl⟩
    · by_cases hl : s.size < 3
      · have T := may_in [239, 187, 191] s hl
        rw [H1.out] at T
        have T' : (((⟨#[239, 187, 191]⟩ : ByteArray).extract 0 s.size).toList == s.toList) = P1 := T
        clear T
        cases P1
        · go_wp2
          go_roundw
          case rel => exact ⟨hd, .inr (.inl ⟨rfl, trivial⟩)⟩
          case measure => simp [intOf]
        · go_wp2
          go_ret
          exact ⟨ret_bool (by simp), hd⟩
      · obtain rfl : P1 = false := by rw [← H1.out]; exact may_out _ s hl
        go_wp2
        go_roundw
        case rel => exact ⟨hd, .inr (.inl ⟨rfl, trivial⟩)⟩
        case measure => simp [intOf]
    · by_cases hl : s.size < 2
      · have T := may_in [255, 254] s hl
        rw [H2.out] at T
        have T' : (((⟨#[255, 254]⟩ : ByteArray).extract 0 s.size).toList == s.toList) = P2 := T
        clear T
        cases P2
        · go_wp2
          go_roundw
          case rel => exact ⟨hd, .inr (.inr (.inl ⟨rfl, trivial, trivial⟩))⟩
          case measure => simp [intOf]
        · go_wp2
          go_ret
          exact ⟨ret_bool (by simp), hd⟩
      · obtain rfl : P2 = false := by rw [← H2.out]; exact may_out _ s hl
        go_wp2
        go_roundw
        case rel => exact ⟨hd, .inr (.inr (.inl ⟨rfl, trivial, trivial⟩))⟩
        case measure => simp [intOf]
    · by_cases hl : s.size < 2
      · have T := may_in [254, 255] s hl
        rw [H3.out] at T
        have T' : (((⟨#[254, 255]⟩ : ByteArray).extract 0 s.size).toList == s.toList) = P3 := T
        clear T
        cases P3
        · go_wp2
          go_roundw
          case rel => exact ⟨hd, .inr (.inr (.inr ⟨rfl, trivial, trivial, trivial⟩))⟩
          case measure => simp [intOf]
        · go_wp2
          go_ret
          exact ⟨ret_bool (by simp), hd⟩
      · obtain rfl : P3 = false := by rw [← H3.out]; exact may_out _ s hl
        go_wp2
        go_roundw
        case rel => exact ⟨hd, .inr (.inr (.inr ⟨rfl, trivial, trivial, trivial⟩))⟩
        case measure => simp [intOf]
    · go_wp2
      go_ret
      exact ⟨rfl, hd⟩
end Go.Proofs.YtefohnbmifblkaaDoor
