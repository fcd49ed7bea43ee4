/-
  The walks of the references' MarkOf, MayBeMarked and Trimmed: they return what the plain functions mark, mayMark and trim say.
-/
import Derived.Test.YtefohnbmifblkaaDoorPlA
import Derived.Test.YtefohnbmifblkaaDoorMem
import Derived.Test.YtefohnbmifblkaaDoorRows
import Derived.Test.YtefohnbmifblkaaDoorShelf
import Derived.Test.YtefohnbmifblkaaDoorSnA
import Derived.Test.YtefohnbmifblkaaDoorSnE
import Derived.Laws.MakeOwn
import Derived.Deep.OwnRows
import Derived.Lib.Split
namespace Go.Proofs.YtefohnbmifblkaaDoor
open Go.RowKit

set_option maxHeartbeats 1000000 in
theorem markOf_any (s : ByteArray) (w : World) :
    Calls Tryd.prog 19 #[.string s] w fun e w' => e = .returned (.tuple #[.int .i64 (Pl.mark s.data.toList).1, .int .i64 (Pl.mark s.data.toList).2]) ∧ w = w' := by
  obtain ⟨P1, h1⟩ : ∃ P, Lib.hasPrefix s.data.toList [239, 187, 191] = P := ⟨_, rfl⟩
  obtain ⟨P2, h2⟩ : ∃ P, Lib.hasPrefix s.data.toList [255, 254] = P := ⟨_, rfl⟩
  obtain ⟨P3, h3⟩ : ∃ P, Lib.hasPrefix s.data.toList [254, 255] = P := ⟨_, rfl⟩
  have hm : Pl.mark s.data.toList = if P1 = true then (1, 3) else if P2 = true then (5, 2) else if P3 = true then (6, 2) else (0, 0) := by
    unfold Pl.mark
    rw [← h1, ← h2, ← h3]
    rfl
  rw [hm]
  clear hm
  have H1 := Lib.hid h1
  have H2 := Lib.hid h2
  have H3 := Lib.hid h3
  clear h1 h2 h3
  cases P1 <;> cases P2 <;> cases P3
  all_goals
    go_enter Tryd.func19, Tryd.ntmps19
    go_wp2_with (first
      | (go_at_call_of 45 (⟨#[239, 187, 191]⟩ : ByteArray); refine (Tryd.strings_HasPrefix _ _ _).mono ?_; rintro e w1 ⟨rfl, hw⟩; subst hw; rw [show (⟨#[239, 187, 191]⟩ : ByteArray).data.toList = [239, 187, 191] from rfl, H1.out])
      | (go_at_call_of 45 (⟨#[255, 254]⟩ : ByteArray); refine (Tryd.strings_HasPrefix _ _ _).mono ?_; rintro e w1 ⟨rfl, hw⟩; subst hw; rw [show (⟨#[255, 254]⟩ : ByteArray).data.toList = [255, 254] from rfl, H2.out])
      | (go_at_call_of 45 (⟨#[254, 255]⟩ : ByteArray); refine (Tryd.strings_HasPrefix _ _ _).mono ?_; rintro e w1 ⟨rfl, hw⟩; subst hw; rw [show (⟨#[254, 255]⟩ : ByteArray).data.toList = [254, 255] from rfl, H3.out]))
    go_ret2
    exact ⟨rfl, rfl⟩

theorem mayMark_cases (s : List UInt8) : ((s = [] ∨ s = [239] ∨ s = [239, 187] ∨ s = [255] ∨ s = [254]) ∧ Pl.mayMark s = true) ∨ ((s ≠ [] ∧ s ≠ [239] ∧ s ≠ [239, 187] ∧ s ≠ [255] ∧ s ≠ [254]) ∧ Pl.mayMark s = false) := by
  match s with
  | [] => exact .inl ⟨.inl rfl, rfl⟩
  | [a] =>
    by_cases h1 : a = 239
    · subst h1; exact .inl ⟨by simp, by decide⟩
    · by_cases h2 : a = 255
      · subst h2; exact .inl ⟨by simp, by decide⟩
      · by_cases h3 : a = 254
        · subst h3; exact .inl ⟨by simp, by decide⟩
        · exact .inr ⟨by simp [h1, h2, h3], Pl.mayMark_head h1 h2 h3⟩
  | [a, b] =>
    by_cases h1 : a = 239 ∧ b = 187
    · obtain ⟨rfl, rfl⟩ := h1
      exact .inl ⟨by simp, by decide⟩
    · refine .inr ⟨by simp; exact fun x y => h1 ⟨x, y⟩, ?_⟩
      simp [Pl.mayMark, Pl.may1]
      intro x y
      exact h1 ⟨x.symm, y.symm⟩
  | a :: b :: c :: r => exact .inr ⟨by simp, Pl.mayMark_long (by simp)⟩

set_option maxHeartbeats 1000000 in
theorem mayBe_any (s : ByteArray) (w : World) :
    Calls Tryd.prog 21 #[.string s] w fun e w' => e = .returned (.bool (Pl.mayMark s.data.toList)) ∧ w = w' := by
  rcases mayMark_cases s.data.toList with ⟨h, hm⟩ | ⟨⟨h0, h1, h2, h3, h4⟩, hm⟩
  · rw [hm]
    have hs : s = ⟨#[]⟩ ∨ s = ⟨#[239]⟩ ∨ s = ⟨#[239, 187]⟩ ∨ s = ⟨#[255]⟩ ∨ s = ⟨#[254]⟩ := by
      obtain ⟨⟨l⟩⟩ := s
      simp only at h
      rcases h with rfl | rfl | rfl | rfl | rfl <;> simp
    clear h hm
    rcases hs with rfl | rfl | rfl | rfl | rfl
    all_goals
      go_enter Tryd.func21, Tryd.ntmps21
      go_wp2
      go_ret
      exact ⟨rfl, rfl⟩
  · rw [hm]
    have a0 : s.toList.isEmpty = false := by
      rw [Lib.toList_data]
      cases hl : s.data.toList with
      | nil => exact absurd hl h0
      | cons _ _ => rfl
    have a1 : (s.toList == [239]) = false := by rw [Lib.toList_data]; exact beq_eq_false_iff_ne.2 h1
    have a2 : (s.toList == [239, 187]) = false := by rw [Lib.toList_data]; exact beq_eq_false_iff_ne.2 h2
    have a3 : (s.toList == [255]) = false := by rw [Lib.toList_data]; exact beq_eq_false_iff_ne.2 h3
    have a4 : (s.toList == [254]) = false := by rw [Lib.toList_data]; exact beq_eq_false_iff_ne.2 h4
    clear h0 h1 h2 h3 h4 hm
    go_enter Tryd.func21, Tryd.ntmps21
    go_wp2
    go_ret
    exact ⟨rfl, rfl⟩

theorem spaces_mem (c : UInt8) : Pl.spaces.contains c = true ↔ (c.toNat = 32 ∨ (9 ≤ c.toNat ∧ c.toNat ≤ 13 ∧ c.toNat ≠ 11)) := by
  have : ∀ n : Fin 256, Pl.spaces.contains (UInt8.ofNat n.val) = true ↔ (n.val = 32 ∨ (9 ≤ n.val ∧ n.val ≤ 13 ∧ n.val ≠ 11)) := by decide +kernel
  have h := this ⟨c.toNat, c.toNat_lt⟩
  simpa using h

set_option maxHeartbeats 1000000 in
theorem space_any (c : UInt8) (w : World) :
    Calls Tryd.prog 67 #[.int .u8 c.toNat] w fun e w' => e = .returned (.bool (Pl.spaces.contains c)) ∧ w = w' := by
  have hm := spaces_mem c
  have hc : c.toNat < 256 := c.toNat_lt
  by_cases h32 : c.toNat = 32
  · rw [hm.2 (.inl h32)]
    clear hm
    have a : ((c.toNat : Int) == 32) = true := beq_iff_eq.2 (by omega)
    clear h32
    go_enter Tryd.func67, Tryd.ntmps67
    go_wp2
    go_ret
    exact ⟨rfl, rfl⟩
  · have a : ((c.toNat : Int) == 32) = false := beq_eq_false_iff_ne.2 (by omega)
    by_cases h9 : 9 ≤ c.toNat
    · by_cases h13 : c.toNat ≤ 13
      · by_cases h11 : c.toNat = 11
        · have e : Pl.spaces.contains c = false := by rw [Bool.eq_false_iff]; intro h; rcases hm.1 h with h | ⟨_, _, h⟩ <;> omega
          rw [e]
          have b : ((c.toNat : Int) != 11) = false := by simp; omega
          clear hm h32 h11 e
          go_enter Tryd.func67, Tryd.ntmps67
          go_wp2
          go_ret
          exact ⟨rfl, rfl⟩
        · rw [hm.2 (.inr ⟨h9, h13, h11⟩)]
          have b : ((c.toNat : Int) != 11) = true := by rw [bne_iff_ne]; omega
          clear hm h32 h11
          go_enter Tryd.func67, Tryd.ntmps67
          go_wp2
          go_ret
          exact ⟨rfl, rfl⟩
      · have e : Pl.spaces.contains c = false := by rw [Bool.eq_false_iff]; intro h; rcases hm.1 h with h | ⟨_, h, _⟩ <;> omega
        rw [e]
        clear hm h32 e
        go_enter Tryd.func67, Tryd.ntmps67
        go_wp2
        go_ret
        exact ⟨rfl, rfl⟩
    · have e : Pl.spaces.contains c = false := by rw [Bool.eq_false_iff]; intro h; rcases hm.1 h with h | ⟨h, _, _⟩ <;> omega
      rw [e]
      clear hm h32 e
      go_enter Tryd.func67, Tryd.ntmps67
      go_wp2
      go_ret
      exact ⟨rfl, rfl⟩
end Go.Proofs.YtefohnbmifblkaaDoor

/-
  The walk of the references' Trimmed: it returns what the plain function trim says, for every text of at most 2^40 bytes.
-/
namespace Go.Proofs.YtefohnbmifblkaaDoor
open Go.RowKit

theorem back_cons {p : UInt8 → Bool} (x : UInt8) (l : List UInt8) : ((x :: l).reverse.dropWhile p).reverse = if (l.reverse.dropWhile p).reverse = [] ∧ p x = true then [] else x :: (l.reverse.dropWhile p).reverse := by
  rw [List.reverse_cons, List.dropWhile_append]
  by_cases h : l.reverse.dropWhile p = []
  · rw [h]
    cases hx : p x
    · rw [show ([] : List UInt8).isEmpty = true from rfl, if_pos rfl, List.dropWhile_cons, hx]
      rfl
    · rw [show ([] : List UInt8).isEmpty = true from rfl, if_pos rfl, List.dropWhile_cons, hx]
      rfl
  · have h' : (l.reverse.dropWhile p).isEmpty = false := by
      cases hl : l.reverse.dropWhile p with
      | nil => exact absurd hl h
      | cons _ _ => rfl
    rw [h', if_neg (by simp), if_neg (fun e => h (List.reverse_eq_nil_iff.1 e.1)), List.reverse_append]
    rfl
theorem trimRight_cons (x : UInt8) (l cs : List UInt8) : Lib.trimRightS (x :: l) cs = if Lib.trimRightS l cs = [] ∧ cs.contains x = true then [] else x :: Lib.trimRightS l cs :=
  back_cons x l
theorem trimLeft_cons (x : UInt8) (l cs : List UInt8) : Lib.trimLeftS (x :: l) cs = if cs.contains x = true then Lib.trimLeftS l cs else x :: l := by
  unfold Lib.trimLeftS
  rw [List.dropWhile_cons]
theorem trim_swap (cs : List UInt8) : ∀ l : List UInt8, Lib.trimRightS (Lib.trimLeftS l cs) cs = Lib.trimS l cs
  | [] => rfl
  | x :: l => by
    have ih := trim_swap cs l
    unfold Lib.trimS at ih ⊢
    rw [trimLeft_cons, trimRight_cons]
    by_cases hx : cs.contains x = true
    · rw [if_pos hx, ih]
      by_cases hr : Lib.trimRightS l cs = []
      · rw [if_pos ⟨hr, hx⟩, hr]
      · rw [if_neg (fun h => hr h.1), trimLeft_cons, if_pos hx]
    · rw [if_neg hx, if_neg (fun h => hx h.2), trimLeft_cons, if_neg hx, trimRight_cons, if_neg (fun h => hx h.2)]
theorem trimRight_snoc (l cs : List UInt8) (x : UInt8) : Lib.trimRightS (l ++ [x]) cs = if cs.contains x = true then Lib.trimRightS l cs else l ++ [x] := by
  unfold Lib.trimRightS
  rw [List.reverse_append, List.reverse_cons, List.reverse_nil, List.nil_append, List.singleton_append, List.dropWhile_cons]
  split
  · rfl
  · simp

/-- the length of a text. -/
def szOf : Value → Nat
  | .string t => t.size
  | _ => 0
theorem szOf_string (t : ByteArray) : szOf (.string t) = t.size := rfl

theorem make_bytes {P : Program} {t e : TypeId} (ht : P.underlying t = some (.slice e)) (hinfo : (P.info? e).map (fun i => (i.zero, i.size, i.bytes)) = some (some (.int .u8 0), 1, 1)) (n : Nat) (hn : n ≤ 281474976710656) (w : World) :
    ∃ w1, (Instr.makeSlice t (.int .i64 (n : Int)) (.int .i64 (n : Int))).run P w = .ok (.slice (some ⟨w.heap.size, 0, none⟩) n n) w1 ∧ BRow w1 w.heap.size (List.replicate n 0) ∧ Below w.heap.size w w1 ∧ w.heap.size < w1.heap.size := by
  refine ⟨_, run_make_row' t e (.int .u8 0) 1 ht hinfo rfl .i64 .i64 n (by omega) (by omega) w, ?_, (Below.refl _ _).alloc (Nat.le_refl _) _, by simp⟩
  intro j b hj
  have hjn : j < n := by
    have := (List.getElem?_eq_some_iff.1 hj).1
    simpa using this
  have hb : b = 0 := by
    rw [List.getElem?_replicate] at hj
    simp [hjn] at hj
    exact hj.symm
  subst hb
  have hm : madeCells #[Value.int .u8 0] n = Array.replicate n (.int .u8 0) := by
    unfold madeCells
    apply Array.ext
    · simp
    · intro i h1 h2
      simp [Nat.mod_one]
  rw [hm]
  refine ⟨?_, ?_⟩
  · rw [World.cell?_alloc_at _ _ _ _ rfl]
    simp [hjn]
  · simp [World.frozen?, World.alloc, -World.alloc_eq]

theorem infoByte : (Tryd.prog.info? 5).map (fun i => (i.zero, i.size, i.bytes)) = some (some (.int .u8 0), 1, 1) := by kernel_rfl

theorem half_at' (k : Nat) (l : List UInt8) (h : k < l.length) : (half k l)[k]'(by rw [half_len]; exact h) = l[k] := by
  have := half_at k l h
  rw [List.getElem?_eq_getElem (by rw [half_len]; exact h)] at this
  exact Option.some.inj this

/-- the first k letters are there, small; zeros behind. -/
def fresh (k : Nat) (l : List UInt8) : List UInt8 := (l.take k).map Pl.small ++ List.replicate (l.length - k) 0
theorem fresh_len (k : Nat) (l : List UInt8) (h : k ≤ l.length) : (fresh k l).length = l.length := by
  unfold fresh
  simp
  omega
theorem fresh_set (k : Nat) (l : List UInt8) (h : k < l.length) : (fresh k l).set k (Pl.small l[k]) = fresh (k + 1) l := by
  unfold fresh
  rw [List.set_append_right _ _ (by simp; omega), List.take_succ_eq_append_getElem h, List.map_append, List.append_assoc]
  congr 1
  simp only [List.length_map, List.length_take, Nat.min_eq_left (Nat.le_of_lt h), Nat.sub_self]
  rw [show l.length - k = (l.length - (k + 1)) + 1 by omega, List.replicate_succ]
  rfl
theorem fresh_zero (l : List UInt8) : fresh 0 l = List.replicate l.length 0 := by simp [fresh]
theorem fresh_all (l : List UInt8) : fresh l.length l = Pl.lower l := by simp [fresh, Pl.lower]

set_option maxRecDepth 100000 in
set_option maxHeartbeats 4000000 in
theorem trimmed_any (s : ByteArray) (w : World) (hs : s.size ≤ 40) :
    Calls Tryd.prog 51 #[.string s] w fun e w' => e = .returned (.string ⟨(Pl.trim s.data.toList).toArray⟩) ∧ Below w.heap.size w w' := by
  obtain ⟨A, hA⟩ : ∃ A, Lib.trimS s.data.toList Pl.spaces = A := ⟨_, rfl⟩
  have HA := Lib.hid hA
  have hT : Pl.trim s.data.toList = Pl.lower A := by unfold Pl.trim; rw [hA]
  rw [hT]
  clear hT hA
  go_enter Tryd.func51, Tryd.ntmps51
  go_wp2
  go_loopw [0] (fun v wr => w = wr ∧ ∃ t : ByteArray, v = .string t ∧ t.size ≤ 40 ∧ Hid (Lib.trimRightS (Lib.trimLeftS t.data.toList Pl.spaces) Pl.spaces = A)) (fun v _ => szOf v)
  case atStart => exact ⟨rfl, s, rfl, hs, Lib.hid ((trim_swap _ _).trans HA.out)⟩
  case round =>
    obtain ⟨rfl, t, rfl, ht, HK⟩ := hrel
    clear HA
    by_cases hgo : ∃ hz : 0 < t.size, Pl.spaces.contains (t[0]'hz) = true
    · obtain ⟨hz, hsp⟩ := hgo
      have he : t.toList.isEmpty = false := by
        rw [Lib.toList_data, drop_data t 0 hz |> fun h => show t.data.toList = _ from h]
        rfl
      have HD := Lib.hid (show t.data.toList = t[0]'hz :: t.data.toList.drop 1 from drop_data t 0 hz)
      have HS := Lib.hid hsp
      clear hsp
      go_wp2_with (go_at_call 67; refine (space_any _ _).mono ?_; rintro e w1 ⟨rfl, hw⟩; subst hw; rw [HS.out])
      go_roundw
      case rel => exact ⟨trivial, t.extract 1 t.size, rfl, by simp; omega, by rw [Lib.extract_to_end]; rw [HD.out, trimLeft_cons, if_pos HS.out] at HK; exact HK⟩
      case measure => simp [szOf]; omega
    · by_cases hz : 0 < t.size
      · obtain ⟨b, hb⟩ : ∃ b, t[0]'hz = b := ⟨_, rfl⟩
        have hsp : Pl.spaces.contains b = false := by
          rw [Bool.eq_false_iff]
          intro h
          exact hgo ⟨hz, by rw [hb]; exact h⟩
        clear hgo
        have hd : t.data.toList = t[0]'hz :: t.data.toList.drop 1 := drop_data t 0 hz
        have he : t.toList.isEmpty = false := by
          rw [Lib.toList_data, hd]
          rfl
        have HK2 : Hid (Lib.trimRightS t.data.toList Pl.spaces = A) := by
          have := HK.out
          rw [hd, trimLeft_cons, hb, if_neg (by rw [hsp]; simp), ← hb, ← hd] at this
          exact this
        have HS := Lib.hid hsp
        have HB0 := Lib.hid (show t.data.toList[0]? = some b by rw [hd, hb]; rfl)
        have Hb := Lib.hid hb
        clear hsp HK hd hb
        go_wp2_with (go_at_call 67; refine (space_any _ _).mono ?_; rintro e w1 ⟨rfl, hw⟩; subst hw; rw [Hb.out, HS.out])
        go_loopw [0] (fun v wr => w = wr ∧ ∃ u : ByteArray, v = .string u ∧ u.size ≤ 40 ∧ Hid (u.data.toList[0]? = some b) ∧ Hid (Lib.trimRightS u.data.toList Pl.spaces = A)) (fun v _ => szOf v)
        case atStart => exact ⟨rfl, t, rfl, ht, HB0, HK2⟩
        case round =>
          obtain ⟨rfl, u, rfl, hu, HU0, HKu⟩ := hrel
          clear HB0 HK2
          have hn : ∃ n, u.size = n + 1 := by
            have h1 := (List.getElem?_eq_some_iff.1 HU0.out).1
            rw [← Lib.size_eq] at h1
            exact ⟨u.size - 1, by omega⟩
          obtain ⟨n, hn⟩ := hn
          have hlt : n < u.size := by omega
          obtain ⟨c, hc⟩ : ∃ c, u[n]'hlt = c := ⟨_, rfl⟩
          have hsp := Lib.hid (show u.data.toList = u.data.toList.take n ++ [c] by
            have h1 := List.take_succ_eq_append_getElem (l := u.data.toList) (i := n) (by simpa using hlt)
            rw [List.take_of_length_le (by rw [← Lib.size_eq]; omega)] at h1
            rw [← hc]
            exact h1)
          have he : u.toList.isEmpty = false := by
            rw [Lib.toList_data, hsp.out]
            simp
          have hlt2 : (n : Int) < (u.size : Int) := by omega
          have hsub : (u.size : Int) - 1 = (n : Int) := by omega
          have HN := Lib.hid hn
          have Hc := Lib.hid hc
          clear hn hc
          cases hcs : Pl.spaces.contains c
          · have HAu := Lib.hid (show u.data.toList = A by
              rw [← HKu.out, hsp.out, trimRight_snoc, hcs, if_neg (by simp)])
            have HC := Lib.hid hcs
            clear hcs
            obtain ⟨w2, hmk, hrow, hbw, hz2⟩ := make_bytes (P := Tryd.prog) Tryd.underlying69 infoByte u.size (by omega) w
            obtain ⟨g, hg⟩ : ∃ g, w.heap.size = g := ⟨_, rfl⟩
            rw [hg] at hmk hrow hbw hz2
            have Hg := Lib.hid hg
            clear hg
            go_wp2_with (go_at_call 67; refine (space_any _ _).mono ?_; rintro e w1 ⟨rfl, hw⟩; subst hw; rw [Hc.out, HC.out])
            clear hmk
            go_loopw [37] (fun i wr => Below g w wr ∧ ∃ k : Nat, k ≤ u.size ∧ i = .int .i64 k ∧ BRow wr g (fresh k u.data.toList)) (fun i _ => u.size - (intOf i).toNat)
            case atStart => exact ⟨hbw, 0, by omega, rfl, by rw [fresh_zero, ← Lib.size_eq]; exact hrow⟩
            case round =>
              obtain ⟨hb, k, hk, rfl, hr⟩ := hrel
              by_cases hlt : k < u.size
              · obtain ⟨x, hx⟩ : ∃ x, u[k]'hlt = x := ⟨_, rfl⟩
                have hlen : k < u.data.toList.length := by rw [← Lib.size_eq]; exact hlt
                have hx2 : u.data.toList[k] = x := by rw [← hx]; rfl
                have HS1 := Lib.hid (fresh_set k u.data.toList hlen)
                rw [hx2] at HS1
                have hfl : k < (fresh k u.data.toList).length := by rw [fresh_len _ _ (Nat.le_of_lt hlen)]; exact hlen
                obtain ⟨hcell, hfr⟩ := hr.at_ k hfl
                have hset := hr.set_ k x hfl
                clear hx2
                have hx256 : x.toNat < 256 := x.toNat_lt
                have hgle : g ≤ g := Nat.le_refl g
                by_cases h1 : 65 ≤ x.toNat
                · by_cases h2 : x.toNat ≤ 90
                  · have HU := Lib.hid (show ((Pl.small x).toNat : Int) = (x.toNat : Int) + 32 by rw [Pl.small_up h1 h2]; omega)
                    have hset2 := hset.set_ k (Pl.small x) (by rw [List.length_set]; exact hfl)
                    rw [List.set_set, HS1.out, HU.out] at hset2
                    have HH := Lib.hid hset2
                    have HW := Lib.hid ((hb.setCell (p := ⟨g, k, none⟩) hgle (.int .u8 (x.toNat : Int))).setCell (p := ⟨g, k, none⟩) hgle (.int .u8 ((x.toNat : Int) + 32)))
                    clear hset hset2
                    go_wp2_with fail
                    go_roundw
                    case rel => exact ⟨HW.out, k + 1, by omega, by go_num, HH.out⟩
                    case measure => simp [intOf]; omega
                  · rw [Pl.small_no (by omega)] at HS1
                    rw [HS1.out] at hset
                    have HH := Lib.hid hset
                    have HW := Lib.hid (hb.setCell (p := ⟨g, k, none⟩) hgle (.int .u8 (x.toNat : Int)))
                    clear hset
                    go_wp2_with fail
                    go_roundw
                    case rel => exact ⟨HW.out, k + 1, by omega, by go_num, HH.out⟩
                    case measure => simp [intOf]; omega
                · rw [Pl.small_no (by omega)] at HS1
                  rw [HS1.out] at hset
                  have HH := Lib.hid hset
                  have HW := Lib.hid (hb.setCell (p := ⟨g, k, none⟩) hgle (.int .u8 (x.toNat : Int)))
                  clear hset
                  go_wp2_with fail
                  go_roundw
                  case rel => exact ⟨HW.out, k + 1, by omega, by go_num, HH.out⟩
                  case measure => simp [intOf]; omega
              · obtain rfl : k = u.size := by omega
                have hback := conv_back (P := Tryd.prog) (cap := u.size) Tryd.underlying69 Tryd.underlying5 Tryd.underlying9 hr (by rw [fresh_len _ _ (by rw [← Lib.size_eq]; omega), ← Lib.size_eq])
                go_wp2
                go_ret
                exact ⟨ret_str (by rw [Lib.size_eq, fresh_all, HAu.out]), by rw [Hg.out]; exact hb⟩
          · have HC := Lib.hid hcs
            have h0 : 0 < n := by
              rcases Nat.eq_zero_or_pos n with rfl | h
              · have h1 := HU0.out
                rw [hsp.out, List.take_zero, List.nil_append] at h1
                injection h1 with h1
                rw [h1, HS.out] at hcs
                cases hcs
              · exact h
            have HR := Lib.hid (show Lib.trimRightS (u.data.toList.take n) Pl.spaces = A by
              rw [← HKu.out, hsp.out, trimRight_snoc, hcs, if_pos rfl, List.take_left' (by simp; omega)])
            clear hcs
            go_wp2_with (go_at_call 67; refine (space_any _ _).mono ?_; rintro e w1 ⟨rfl, hw⟩; subst hw; rw [Hc.out, HC.out])
            go_roundw
            case rel =>
              refine ⟨trivial, u.extract 0 n, ?_, ?_, ?_, ?_⟩
              · rfl
              · simp; omega
              · rw [extract_front]
                show Hid ((u.data.toList.take n)[0]? = some b)
                rw [List.getElem?_take, if_pos h0]
                exact HU0
              · rw [extract_front]
                exact HR
            case measure => simp [szOf]; omega
      · have ht0 : t = ⟨#[]⟩ := by
          rcases t with ⟨⟨l⟩⟩
          have : l.length = 0 := by
            have : ¬ 0 < l.length := hz
            omega
          rw [List.eq_nil_of_length_eq_zero this]
        subst ht0
        have hA : A = [] := HK.out.symm
        subst hA
        clear hgo hz
        obtain ⟨w2, hmk, hrow, hbw, hz2⟩ := make_bytes (P := Tryd.prog) Tryd.underlying69 infoByte 0 (by omega) w
        have hmk' : (Instr.makeSlice 69 (.int .i64 0) (.int .i64 0)).run Tryd.prog w = .ok (.slice (some ⟨w.heap.size, 0, none⟩) 0 0) w2 := hmk
        have hback := conv_back (P := Tryd.prog) (cap := 0) (n := 0) Tryd.underlying69 Tryd.underlying5 Tryd.underlying9 (l := []) hrow rfl
        clear hmk
        go_wp2
        refine wp_loop_rounds 1 ?_
        rw [rounds_succ]
        go_wp2
        refine wp_loop_rounds 1 ?_
        rw [rounds_succ]
        go_wp2
        go_ret
        exact ⟨rfl, hbw⟩
end Go.Proofs.YtefohnbmifblkaaDoor

/-
  The walk of the references' FindLabel: it returns what the plain function find says, for every text, in every world in which the library's one variable holds a number.
-/
namespace Go.Proofs.YtefohnbmifblkaaDoor
open Go.RowKit

/-- the library's variable that its search reads. -/
def Mx (w : World) : Prop := ∃ m, w.cell? ⟨2, 0, none⟩ = some (.int .i64 m)
theorem Mx.below {w w' : World} (h : Mx w) (hb : Below w.heap.size w w') : Mx w' := by
  obtain ⟨m, h⟩ := h
  exact ⟨m, (hb.cell (p := ⟨_, 0, none⟩) (lt_of_cell h)).trans h⟩

def sp : ByteArray := ⟨#[32]⟩
def lab : Nat → ByteArray
  | 0 => ⟨#[117, 116, 102, 45, 56, 32, 117, 116, 102, 56, 32, 117, 110, 105, 99, 111, 100, 101, 45, 49, 45, 49, 45, 117, 116, 102, 45, 56]⟩
  | 1 => ⟨#[115, 104, 105, 102, 116, 32, 105, 115, 111, 45, 50, 48, 50, 50]⟩
  | 2 => ⟨#[116, 119, 105, 110, 32, 120, 45, 116, 119, 105, 110, 32, 109, 115, 95, 116, 119, 105, 110]⟩
  | 3 => ⟨#[108, 97, 116, 105, 110, 32, 108, 97, 116, 105, 110, 49, 32, 97, 115, 99, 105, 105, 32, 117, 115, 45, 97, 115, 99, 105, 105, 32, 119, 105, 110, 100, 111, 119, 115, 45, 49, 50, 53, 50]⟩
  | 4 => ⟨#[117, 116, 102, 45, 49, 54, 32, 117, 116, 102, 45, 49, 54, 108, 101]⟩
  | _ => ⟨#[117, 116, 102, 45, 49, 54, 98, 101]⟩
def wordsOf (i : Nat) : List ByteArray := Lib.splitB sp 0 (Lib.countB (lab i) sp) (lab i)
def namesFrom : Nat → List (List UInt8 × Int)
  | 0 => []
  | n + 1 => (wordsOf (5 - n)).map (fun b => (b.data.toList, ((5 - n : Nat) : Int) + 1)) ++ namesFrom n
theorem names_all : Pl.names = namesFrom 6 := by decide +kernel
theorem words_len : ∀ i, i < 6 → (wordsOf i).length = Lib.countB (lab i) sp + 1 := by decide +kernel
theorem words_few : ∀ i, i < 6 → Lib.countB (lab i) sp + 1 ≤ 8 := by decide +kernel
theorem lab_small : ∀ i, i < 6 → (lab i).size ≤ 100 := by decide +kernel

/-- block g holds just these texts, from its head on. -/
def SRow (w : World) (g : Nat) (f : Nat → ByteArray) (n : Nat) : Prop := ∀ i, i < n → w.cell? ⟨g, i, none⟩ = some (.string (f i))
theorem SRow.below {w w' : World} {g n : Nat} {f : Nat → ByteArray} (h : SRow w g f n) (hb : Below w.heap.size w w') : SRow w' g f n :=
  fun i hi => (hb.cell (p := ⟨g, i, none⟩) (lt_of_cell (h i hi))).trans (h i hi)

def nf (k j : Nat) : List (List UInt8 × Int) := ((wordsOf k).drop j).map (fun b => (b.data.toList, (k : Int) + 1)) ++ namesFrom (5 - k)
theorem nf_start (k : Nat) (hk : k < 6) : namesFrom (6 - k) = nf k 0 := by
  obtain ⟨n, hn⟩ : ∃ n, 6 - k = n + 1 := ⟨5 - k, by omega⟩
  rw [hn, namesFrom, nf, List.drop_zero, show 5 - n = k by omega, show 5 - k = n by omega]
theorem nf_end (k : Nat) (hk : k < 6) : nf k (wordsOf k).length = namesFrom (6 - (k + 1)) := by
  rw [nf, List.drop_length, List.map_nil, List.nil_append, show 6 - (k + 1) = 5 - k by omega]
theorem nf_step (k j : Nat) (hj : j < (wordsOf k).length) : nf k j = (((wordsOf k)[j]).data.toList, (k : Int) + 1) :: nf k (j + 1) := by
  rw [nf, List.drop_eq_getElem_cons hj, List.map_cons, List.cons_append]
  rfl
theorem look_hit (t : List UInt8) (n : Int) (r : List (List UInt8 × Int)) : Pl.look t ((t, n) :: r) = n := by
  unfold Pl.look
  rw [if_pos rfl]
theorem look_miss {t u : List UInt8} {n : Int} {r : List (List UInt8 × Int)} (h : t ≠ u) : Pl.look t ((u, n) :: r) = Pl.look t r := by
  rw [Pl.look, if_neg h]

theorem split_any (k : Nat) (hk : k < 6) (w : World) (hm : Mx w) :
    Calls Tryd.prog 50 #[.string (lab k), .string ⟨#[32]⟩] w fun e w' => e = .returned (.slice (some ⟨w.heap.size, 0, none⟩) (wordsOf k).length (wordsOf k).length) ∧ Below w.heap.size w w' ∧ SRow w' w.heap.size (fun j => (wordsOf k).getD j ByteArray.empty) (wordsOf k).length := by
  obtain ⟨m, hm⟩ := hm
  refine (Tryd.strings_Split (lab k) ⟨#[32]⟩ m w (by have := lab_small k hk; omega) hm (by decide)).mono fun e w' ⟨h1, h2⟩ => ?_
  subst h2
  refine ⟨by rw [words_len k hk]; exact h1, (Below.refl _ _).alloc (Nat.le_refl _) _, fun j hj => ?_⟩
  rw [World.cell?_alloc_at _ _ _ _ rfl]
  show (((wordsOf k).map Value.string).toArray)[j]? = _
  rw [List.getElem?_toArray, List.getElem?_map, List.getElem?_eq_getElem hj]
  show _ = some (Value.string (((wordsOf k)[j]?).getD ByteArray.empty))
  rw [List.getElem?_eq_getElem hj]
  rfl

set_option maxRecDepth 100000 in
set_option maxHeartbeats 4000000 in
theorem refFind_any (s : ByteArray) (w : World) (hs : s.size ≤ maxLen) (hmx : Mx w) :
    Calls Tryd.prog 29 #[.string s] w fun e w' => e = .returned (.int .i64 (Pl.find s.data.toList)) ∧ Below w.heap.size w w' := by
  have hs' := hs
  unfold maxLen at hs'
  have HMX := Lib.hid hmx
  clear hmx
  by_cases h40 : 40 < s.size
  · have HF := Lib.hid (show Pl.find s.data.toList = 0 by unfold Pl.find; rw [if_pos (by simpa using h40)])
    rw [HF.out]
    go_enter Tryd.func29, Tryd.ntmps29
    go_wp2
    go_ret
    exact ⟨rfl, Below.refl _ _⟩
  · obtain ⟨A, hA⟩ : ∃ A, Pl.find s.data.toList = A := ⟨_, rfl⟩
    have HA := Lib.hid (show Pl.look (Pl.trim s.data.toList) (namesFrom 6) = A by rw [← names_all, ← hA]; unfold Pl.find; rw [if_neg (by simpa using h40)])
    rw [hA]
    have H40 : s.size ≤ 40 := by omega
    clear h40 hA
    obtain ⟨t, ht⟩ : ∃ t, Pl.trim s.data.toList = t := ⟨_, rfl⟩
    have HT := Lib.hid ht
    rw [ht] at HA
    clear ht
    go_enter Tryd.func29, Tryd.ntmps29
    go_wp2
    have hrow : SRow (w.alloc (.cells #[.string (lab 0), .string (lab 1), .string (lab 2), .string (lab 3), .string (lab 4), .string (lab 5)] 9)) w.heap.size lab 6 := by
      intro i hi
      rw [World.cell?_alloc_at _ _ _ _ rfl]
      rcases (show i = 0 ∨ i = 1 ∨ i = 2 ∨ i = 3 ∨ i = 4 ∨ i = 5 by omega) with rfl | rfl | rfl | rfl | rfl | rfl <;> rfl
    have hb0 : Below w.heap.size w (w.alloc (.cells #[.string (lab 0), .string (lab 1), .string (lab 2), .string (lab 3), .string (lab 4), .string (lab 5)] 9)) := (Below.refl _ _).alloc (Nat.le_refl _) _
    simp only [lab] at hrow hb0
    have HB0 := Lib.hid hb0
    have HR0 := Lib.hid hrow
    clear hb0 hrow
    generalize w.alloc _ = w0 at HB0 HR0 ⊢
    have HM0 := Lib.hid (HMX.out.below HB0.out)
    obtain ⟨g, hg⟩ : ∃ g, w.heap.size = g := ⟨_, rfl⟩
    rw [hg] at HB0 HR0 ⊢
    have Hg := Lib.hid hg
    clear hg
    go_loopw [12] (fun i wr => Below g w wr ∧ Hid (Mx wr) ∧ Hid (SRow wr g lab 6) ∧ ∃ k : Nat, k ≤ 6 ∧ i = .int .i64 k ∧ Hid (Pl.look t (namesFrom (6 - k)) = A)) (fun i _ => 6 - (intOf i).toNat)
    case atStart => exact ⟨HB0.out, HM0, HR0, 0, by omega, rfl, HA⟩
    case round =>
      obtain ⟨hb, HM, HR, k, hk, rfl, HK⟩ := hrel
      clear HB0 HR0 HM0 HA
      by_cases hlt : k < 6
      · have hcell := HR.out k hlt
        have hl8 := words_few k hlt
        have hwl := words_len k hlt
        rw [← hwl] at hl8
        clear hwl
        rw [nf_start k hlt] at HK
        go_wp2_with (go_at_call 50; refine (split_any k hlt _ HM.out).mono ?_; rintro e w1 ⟨rfl, hb1, hr1⟩)
        have hgs : g < wr.heap.size := lt_of_cell (HR.out k hlt)
        have HB1 := Lib.hid (hb.trans (hb1.mono (Nat.le_of_lt hgs)))
        have HM1 := Lib.hid (HM.out.below hb1)
        have HR1 := Lib.hid (HR.out.below hb1)
        have HW1 := Lib.hid hr1
        clear hb1 hr1 hcell hb
        clear HM HR
        obtain ⟨g1, hg1⟩ : ∃ g1, wr.heap.size = g1 := ⟨_, rfl⟩
        rw [hg1] at HW1 ⊢
        clear hg1 hgs
        obtain ⟨wo, hwo⟩ : ∃ wo, wo = wr := ⟨_, rfl⟩
        rw [← hwo] at *
        clear hwo
        obtain ⟨n, hn⟩ : ∃ n, (wordsOf k).length = n := ⟨_, rfl⟩
        rw [hn] at hl8 HW1 ⊢
        have Hn := Lib.hid hn
        clear hn
        go_loopw [20] (fun i wi => Hid (Below g w wi) ∧ Hid (Mx wi) ∧ Hid (SRow wi g lab 6) ∧ Hid (SRow wi g1 (fun j => (wordsOf k).getD j ByteArray.empty) n) ∧ ∃ j : Nat, j ≤ n ∧ i = .int .i64 j ∧ Hid (Pl.look t (nf k j) = A)) (fun i _ => n - (intOf i).toNat)
        case atStart => exact ⟨HB1, HM1, HR1, HW1, 0, by omega, rfl, HK⟩
        case round =>
          obtain ⟨HB, HM, HR, HW, j, hj, rfl, HL⟩ := hrel
          clear HB1 HM1 HR1 HW1 HK
          by_cases hjn : j < n
          · have hcell := HW.out j hjn
            obtain ⟨u, hu⟩ : ∃ u, (wordsOf k).getD j ByteArray.empty = u := ⟨_, rfl⟩
            simp only [hu] at hcell
            have HS := Lib.hid (show nf k j = (u.data.toList, (k : Int) + 1) :: nf k (j + 1) by
              have h1 : j < (wordsOf k).length := by rw [Hn.out]; exact hjn
              rw [nf_step k j h1, ← hu]
              show _ = ((((wordsOf k)[j]?).getD ByteArray.empty).data.toList, _) :: _
              rw [List.getElem?_eq_getElem h1]
              rfl)
            clear hu
            by_cases htu : t = u.data.toList
            · have hbt : (u.toList == t) = true := by rw [Lib.toList_data, htu]; exact beq_self_eq_true _
              have HA := Lib.hid (show (k : Int) + 1 = A by rw [← HL.out, HS.out, ← htu, look_hit])
              clear htu
              go_wp2_with (go_at_call 51; refine (trimmed_any _ _ H40).mono ?_; rintro e w2 ⟨rfl, hb2⟩; rw [HT.out])
              go_ret
              exact ⟨ret_int HA.out, by rw [Hg.out]; exact HB.out.trans (hb2.mono (by have h1 := HB.out.size; have h2 := Hg.out; omega))⟩
            · have hbt : (u.toList == t) = false := by rw [Lib.toList_data]; exact beq_eq_false_iff_ne.2 fun e => htu e.symm
              have HA := Lib.hid (show Pl.look t (nf k (j + 1)) = A by rw [← HL.out, HS.out, look_miss htu])
              clear htu
              go_wp2_with (go_at_call 51; refine (trimmed_any _ _ H40).mono ?_; rintro e w2 ⟨rfl, hb2⟩; rw [HT.out])
              go_roundw
              case rel => exact ⟨Lib.hid (HB.out.trans (hb2.mono (by have h1 := HB.out.size; have h2 := Hg.out; omega))), Lib.hid (HM.out.below hb2), Lib.hid (HR.out.below hb2), Lib.hid (HW.out.below hb2), j + 1, by omega, by go_num, HA⟩
              case measure => simp [intOf]; omega
          · have hjn' : j = n := by omega
            subst hjn'
            have HA := Lib.hid (show Pl.look t (namesFrom (6 - (k + 1))) = A by rw [← HL.out, ← nf_end k hlt, Hn.out])
            go_wp2
            go_roundw
            case rel => exact ⟨HB.out, HM, HR, k + 1, by omega, by go_num, HA⟩
            case measure => simp [intOf]; omega
      · have hk6 : k = 6 := by omega
        subst hk6
        have HZ := Lib.hid (show (0 : Int) = A from HK.out)
        go_wp2
        go_ret
        exact ⟨ret_int HZ.out, by rw [Hg.out]; exact hb⟩
end Go.Proofs.YtefohnbmifblkaaDoor
