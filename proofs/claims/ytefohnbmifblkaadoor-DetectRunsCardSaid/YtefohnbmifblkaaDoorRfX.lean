/-
  The references' piece, for every encoding; the walks of WholeOf and of right.
-/
import Derived.Test.YtefohnbmifblkaaDoorRfVb
import Derived.Test.YtefohnbmifblkaaDoorRfVc
import Derived.Test.YtefohnbmifblkaaDoorRfV
import Derived.Test.YtefohnbmifblkaaDoorRfT
import Derived.Test.YtefohnbmifblkaaDoorRfU
import Derived.Test.YtefohnbmifblkaaDoorDoG
import Derived.Test.YtefohnbmifblkaaDoorPlP
import Derived.Laws.Rows
namespace Go.Proofs.YtefohnbmifblkaaDoor
open Go.RowKit

theorem utf_any_piece (s : ByteArray) (m : Int) (b : UInt8) (r : List UInt8) (w : World) (hb : s.data.toList = b :: r) :
    Calls Tryd.prog 72 #[.int .i64 1, .string s, .int .i64 m] w fun e w' => AnsP w (Pl.pUtf (b :: r)).1 (Pl.pUtf (b :: r)).2 0 e w' := by
  by_cases h1 : Pl.byte b < 128
  · exact utf_one s m b r w hb h1
  by_cases h2 : Pl.byte b < 194 ∨ 244 < Pl.byte b
  · exact utf_none s m b r w hb (by omega) h2
  by_cases h3 : Pl.byte b ≤ 223
  · exact utf_two s m b r w hb (by omega) h3
  by_cases h4 : Pl.byte b = 224
  · exact utf_three_a s m b r w hb h4
  by_cases h5 : Pl.byte b = 237
  · exact utf_three_b s m b r w hb h5
  by_cases h6 : Pl.byte b ≤ 239
  · exact utf_three_c s m b r w hb (by omega) h6 h4 h5
  by_cases h7 : Pl.byte b = 240
  · exact utf_four_a s m b r w hb h7
  by_cases h8 : Pl.byte b = 244
  · exact utf_four_b s m b r w hb h8
  exact utf_four_c s m b r w hb (by omega) (by omega) h7 h8
theorem piece_any (e m : Int) (s : ByteArray) (b : UInt8) (r : List UInt8) (w : World) (hb : s.data.toList = b :: r) (he : 1 ≤ e ∧ e ≤ 6) (hm : Pl.okM e m) :
    Calls Tryd.prog 72 #[.int .i64 e, .string s, .int .i64 m] w fun x w' => AnsP w (Pl.pPiece e m (b :: r)).1 (Pl.pPiece e m (b :: r)).2.1 (Pl.pPiece e m (b :: r)).2.2 x w' := by
  rcases (show e = 1 ∨ e = 2 ∨ e = 3 ∨ e = 4 ∨ e = 5 ∨ e = 6 by omega) with rfl | rfl | rfl | rfl | rfl | rfl
  · rw [show Pl.pPiece 1 m (b :: r) = ((Pl.pUtf (b :: r)).1, (Pl.pUtf (b :: r)).2, 0) by unfold Pl.pPiece; simp]
    dsimp only
    exact utf_any_piece s m b r w hb
  · rw [show Pl.pPiece 2 m (b :: r) = Pl.pShift m (b :: r) by unfold Pl.pPiece; simp]
    refine piece_shift s m b r w hb ?_
    rcases hm with h | ⟨_, h⟩
    · exact .inl h
    · exact .inr h
  · rw [show Pl.pPiece 3 m (b :: r) = ((Pl.pTwin (b :: r)).1, (Pl.pTwin (b :: r)).2, 0) by unfold Pl.pPiece; simp]
    dsimp only
    exact piece_twin s m b r w hb
  · rw [show Pl.pPiece 4 m (b :: r) = ((Pl.pLatin (b :: r)).1, (Pl.pLatin (b :: r)).2, 0) by unfold Pl.pPiece; simp]
    dsimp only
    exact piece_latin s m b r w hb
  · rw [show Pl.pPiece 5 m (b :: r) = ((Pl.pPairs ((5 : Int) == 5) (b :: r)).1, (Pl.pPairs ((5 : Int) == 5) (b :: r)).2, 0) by unfold Pl.pPiece; simp]
    dsimp only
    exact piece_pairs5 s m b r w hb
  · rw [show Pl.pPiece 6 m (b :: r) = ((Pl.pPairs ((6 : Int) == 5) (b :: r)).1, (Pl.pPairs ((6 : Int) == 5) (b :: r)).2, 0) by unfold Pl.pPiece; simp]
    dsimp only
    exact piece_pairs6 s m b r w hb

theorem at_front (t : ByteArray) (h : 0 < t.size) : ∃ b r, t.data.toList = b :: r := by
  rcases hd : t.data.toList with _ | ⟨b, r⟩
  · have : t.data.toList.length = t.size := by simp
    rw [hd] at this
    simp at this
    omega
  · exact ⟨b, r, rfl⟩

/-- what WholeOf answers: numbers in a slice of their own. -/
def AnsW (w : World) (l : List Int) (e : Ending) (w' : World) : Prop :=
  (∃ v, e = .returned (.tuple #[v, .int .i64 0]) ∧ w'.ownsRow w.heap.size 3 1 v l.length (ints l)) ∧ Below w.heap.size w w'

set_option maxRecDepth 100000 in
set_option maxHeartbeats 4000000 in
theorem wholeOf_any (e : Int) (s : ByteArray) (w : World) (he : 1 ≤ e ∧ e ≤ 6) (hs : s.size ≤ 4000) :
    Calls Tryd.prog 56 #[.int .i64 e, .string s] w fun x w' => AnsW w (Pl.dWhole e s.data.toList) x w' := by
  have hs2 : (s.size : Int) ≤ 4000 := by omega
  have HE := Lib.hid he
  obtain ⟨he0, he1⟩ := he
  obtain ⟨R, hR⟩ : ∃ R, Pl.dWhole e s.data.toList = R := ⟨_, rfl⟩
  have HR := Lib.hid hR
  rw [hR]
  clear hR
  go_enter Tryd.func56, Tryd.ntmps56
  go_wp2_with fail
  go_loopw [1, 6, 7] (fun sv av mv wr => ∃ (t : ByteArray) (m : Int) (xs : List Int), sv = .string t ∧ mv = .int .i64 m ∧ xs.length + t.size ≤ 4000 ∧ Hid (Pl.okM e m) ∧ Hid (xs ++ Pl.dD e (Pl.stM m) t.data.toList = R) ∧ Hid (wr.ownsRow w.heap.size 3 1 av xs.length (ints xs)) ∧ Hid (Below w.heap.size w wr)) (fun sv _ _ _ => szOf sv)
  case atStart => exact ⟨s, 0, [], rfl, rfl, by simpa using hs, Lib.hid (.inl rfl), Lib.hid HR.out, Lib.hid (World.ownsRow_nil _ _ _ _), Lib.hid (Below.refl _ _)⟩
  case round =>
    obtain ⟨t, m, xs, rfl, rfl, hlen, HM, HI, HO, HB⟩ := hrel
    obtain ⟨p6, c6, rfl⟩ := own_form HO.out
    by_cases hz : 0 < t.size
    · obtain ⟨b, r, hbr⟩ := at_front t hz
      have he : t.toList.isEmpty = false := by
        rw [Lib.toList_data, hbr]
        rfl
      have hpl := Pl.pPiece_len e m b r
      have HPm := Lib.hid (Pl.pPiece_mode e m HM.out b r)
      have HPt := Lib.hid (Pl.piece_tells e m HE.out HM.out b r)
      have HPc : Hid (∀ W, Calls Tryd.prog 72 #[.int .i64 e, .string t, .int .i64 m] W fun x w' => AnsP W (Pl.pPiece e m (b :: r)).1 (Pl.pPiece e m (b :: r)).2.1 (Pl.pPiece e m (b :: r)).2.2 x w') := Lib.hid fun W => piece_any e m t b r W hbr HE.out HM.out
      rw [show (b :: r).length = t.size by rw [← hbr]; simp] at hpl
      obtain ⟨P, hP⟩ : ∃ P, Pl.pPiece e m (b :: r) = P := ⟨_, rfl⟩
      rw [hP] at hpl HPm HPt HPc
      obtain ⟨o, n, m'⟩ := P
      dsimp only at hpl HPm HPt HPc
      rw [← hbr] at HPt
      obtain ⟨hn0, hn1, ho1⟩ := hpl
      have hn2 : (n : Int) ≤ (t.size : Int) := by omega
      have hn3 : (0 : Int) ≤ (n : Int) := by omega
      clear hP hbr
      go_wp2_with fail
      refine (HPc.out _).mono ?_
      rintro x1 w1 ⟨v1, rfl, ho, hb⟩
      obtain ⟨p1, c1, rfl⟩ := own_form ho
      have HO1 := Lib.hid (own_below HO.out hb (Nat.le_refl _))
      have HOo := Lib.hid ho
      have HB1 := Lib.hid (bthen HB.out hb)
      clear ho hb HPc
      go_wp2_with (first
        | (at_builtin
           with_reducible refine gate_append ?_
           refine wpList_app (by rfl) _ _ (by rfl) w.heap.size wr.heap.size _ _ xs.length o.length (ints xs) (ints o) (by rfl) (by rfl) HO1.out HOo.out (ints_one o) (by omega) HB1.out.size ?_
           intro v2 w2 HA2
           have HO2 := Lib.hid HA2.own
           have HB2 := Lib.hid (HB1.out.trans (HA2.below HO1.out HB1.out.size))
           clear HA2))
      go_roundw
      case rel =>
        refine ⟨t.extract n t.size, m', xs ++ o, rfl, rfl, by rw [List.length_append, ByteArray.size_extract]; omega, HPm, Lib.hid ?_, Lib.hid ?_, HB2⟩
        · rw [← HI.out, HPt.out, List.append_assoc, extract_drop]
        · have h := HO2.out
          rw [List.length_append, show ints (xs ++ o) = ints xs ++ ints o from List.map_append ..]
          exact h
      case measure => simp [szOf, ByteArray.size_extract]; omega
    · have ht : t.data.toList = [] := by
        have h0 : t.data.toList.length = t.size := by simp
        exact List.eq_nil_of_length_eq_zero (by omega)
      have he : t.toList.isEmpty = true := by
        rw [Lib.toList_data, ht]
        rfl
      have hx : R = xs := by
        rw [← HI.out, ht, Pl.dD_nil]
        have : Pl.dEnd (Pl.stM m) = [] := by simp [Pl.dEnd, Pl.stM]
        rw [this, List.append_nil]
      have HX := Lib.hid hx
      clear ht hx
      go_wp2_with fail
      refine bodyPost_ret (by simp [results, Tryd.results56, go_sem]; rfl) rfl ?_
      rw [HX.out]
      exact ⟨⟨_, rfl, HO.out⟩, HB.out⟩
end Go.Proofs.YtefohnbmifblkaaDoor

/-
  Plain: the weights of the pairs of a text, summed; they are the scores; the best encoding by these sums.
-/
namespace Go.Proofs.YtefohnbmifblkaaDoor
open Go.RowKit

/-- what the first i pairs of neighbours weigh. -/
def wTo (e : Int) (l : List UInt8) : Nat → Int
  | 0 => 0
  | i + 1 => wTo e l i + Pl.weight e (Pl.byte (l.getD i 0)) (Pl.byte (l.getD (i + 1) 0))
theorem wTo_bound (e : Int) (l : List UInt8) : ∀ i : Nat, -8 * (i : Int) ≤ wTo e l i ∧ wTo e l i ≤ 8 * (i : Int)
  | 0 => by simp [wTo]
  | i + 1 => by
    have h := wTo_bound e l i
    have w := Pl.wgt_range e (Pl.byte (l.getD i 0)) (Pl.byte (l.getD (i + 1) 0)) (Pl.cls (Pl.byte (l.getD i 0))) (Pl.cls (Pl.byte (l.getD (i + 1) 0)))
    unfold wTo Pl.weight
    omega
theorem feedSc_sums (e : Nat) (he : 1 ≤ e) (l : List UInt8) : ∀ k, k < l.length → (feedSc (fun _ => 0) (-1) (l.take (k + 1))).2 = Pl.byte (l.getD k 0) ∧ (feedSc (fun _ => 0) (-1) (l.take (k + 1))).1 (2 * e + 1) = wTo (e : Int) l k
  | 0, h => by
    rcases l with _ | ⟨c, r⟩
    · simp at h
    · refine ⟨rfl, ?_⟩
      show scNext (fun _ => 0) (-1) (Pl.byte c) (2 * e + 1) = 0
      unfold scNext
      rw [if_neg (by omega), if_neg (by omega), if_pos (by omega)]
  | k + 1, h => by
    obtain ⟨h1, h2⟩ := feedSc_sums e he l k (by omega)
    have hd : l.getD (k + 1) 0 = l[k + 1] := by simp [List.getD, h]
    have ht : l.take (k + 1 + 1) = l.take (k + 1) ++ [l[k + 1]] := (List.take_append_getElem h).symm
    rw [ht, feedSc_app, hd]
    refine ⟨rfl, ?_⟩
    show scNext (feedSc (fun _ => 0) (-1) (l.take (k + 1))).1 (feedSc (fun _ => 0) (-1) (l.take (k + 1))).2 (Pl.byte l[k + 1]) (2 * e + 1) = _
    unfold scNext
    have hb : ¬ Pl.byte (l.getD k 0) < 0 := by
      have := (Pl.byte_lt (l.getD k 0)).1
      omega
    rw [if_neg (by omega), if_neg (by omega), h1, if_neg hb, h2, show (2 * e + 1) / 2 = e by omega, wTo, hd]
theorem feedSc_sum (e : Nat) (he : 1 ≤ e) (l : List UInt8) : (feedSc (fun _ => 0) (-1) l).1 (2 * e + 1) = wTo (e : Int) l (l.length - 1) := by
  by_cases h : l.length = 0
  · have : l = [] := List.eq_nil_of_length_eq_zero h
    subst this
    rfl
  · have h2 := (feedSc_sums e he l (l.length - 1) (by omega)).2
    rwa [show l.length - 1 + 1 = l.length by omega, List.take_length] at h2
/-- is nothing wrong? -/
def rgt (e : Int) (l : List UInt8) : Bool := Pl.aEnds e (Pl.aRun e 0 l)
theorem best_step (l : List UInt8) (j m : Nat) (hm : bestTo (feedSc (fun _ => 0) (-1) l).1 j = m) :
    bestTo (feedSc (fun _ => 0) (-1) l).1 (j + 1) = if rgt ((j + 1 : Nat) : Int) l = true ∧ (m = 0 ∨ wTo (m : Int) l (l.length - 1) < wTo ((j + 1 : Nat) : Int) l (l.length - 1)) then j + 1 else m := by
  have e1 : (feedSc (fun _ => 0) (-1) l).1 ((j + 1) * 2) = Pl.aRun ((j + 1 : Nat) : Int) 0 l := by
    have h := feedSc_state (j + 1) (by omega) l (fun _ => 0) (-1)
    rwa [show (j + 1) * 2 = 2 * (j + 1) by omega]
  have e2 : (feedSc (fun _ => 0) (-1) l).1 ((j + 1) * 2 + 1) = wTo ((j + 1 : Nat) : Int) l (l.length - 1) := by
    have h := feedSc_sum (j + 1) (by omega) l
    rwa [show (j + 1) * 2 + 1 = 2 * (j + 1) + 1 by omega]
  rw [bestTo, hm, e1, e2]
  by_cases h0 : m = 0
  · subst h0
    unfold rgt
    simp
  · have e3 : (feedSc (fun _ => 0) (-1) l).1 (m * 2 + 1) = wTo (m : Int) l (l.length - 1) := by
      have h := feedSc_sum m (by omega) l
      rwa [show m * 2 + 1 = 2 * m + 1 by omega]
    rw [e3]
    unfold rgt
    rfl
end Go.Proofs.YtefohnbmifblkaaDoor

/-
  The walk of the references' right: nothing is wrong, just where the automata accept.
-/
namespace Go.Proofs.YtefohnbmifblkaaDoor
open Go.RowKit

set_option maxRecDepth 100000 in
set_option maxHeartbeats 4000000 in
theorem right_any (e : Int) (s : ByteArray) (w : World) (he : 1 ≤ e ∧ e ≤ 6) (hs : s.size ≤ 4000) :
    Calls Tryd.prog 69 #[.int .i64 e, .string s] w fun x w' => x = .returned (.bool (rgt e s.data.toList)) ∧ Below w.heap.size w w' := by
  have hs2 : (s.size : Int) ≤ 4000 := by omega
  have HE := Lib.hid he
  obtain ⟨he0, he1⟩ := he
  obtain ⟨R, hR⟩ : ∃ R, rgt e s.data.toList = R := ⟨_, rfl⟩
  have HR : Hid (R = true ↔ (-1 : Int) ∉ Pl.dD e (Pl.stM 0) s.data.toList) := Lib.hid (by rw [← hR]; exact Pl.right_iff e HE.out _)
  rw [hR]
  clear hR
  go_enter Tryd.func69, Tryd.ntmps69
  go_wp2_with fail
  go_loopw [1, 5] (fun sv mv wr => ∃ (t : ByteArray) (m : Int), sv = .string t ∧ mv = .int .i64 m ∧ t.size ≤ 4000 ∧ Hid (Pl.okM e m) ∧ Hid (R = true ↔ (-1 : Int) ∉ Pl.dD e (Pl.stM m) t.data.toList) ∧ Hid (Below w.heap.size w wr)) (fun sv _ _ => szOf sv)
  case atStart => exact ⟨s, 0, rfl, rfl, hs, Lib.hid (.inl rfl), HR, Lib.hid (Below.refl _ _)⟩
  case round =>
    obtain ⟨t, m, rfl, rfl, hlen, HM, HI, HB⟩ := hrel
    by_cases hz : 0 < t.size
    · obtain ⟨b, r, hbr⟩ := at_front t hz
      have he : t.toList.isEmpty = false := by
        rw [Lib.toList_data, hbr]
        rfl
      have hpl := Pl.pPiece_len e m b r
      have HPm := Lib.hid (Pl.pPiece_mode e m HM.out b r)
      have HPt := Lib.hid (Pl.piece_tells e m HE.out HM.out b r)
      have HPc : Hid (∀ W, Calls Tryd.prog 72 #[.int .i64 e, .string t, .int .i64 m] W fun x w' => AnsP W (Pl.pPiece e m (b :: r)).1 (Pl.pPiece e m (b :: r)).2.1 (Pl.pPiece e m (b :: r)).2.2 x w') := Lib.hid fun W => piece_any e m t b r W hbr HE.out HM.out
      rw [show (b :: r).length = t.size by rw [← hbr]; simp] at hpl
      obtain ⟨P, hP⟩ : ∃ P, Pl.pPiece e m (b :: r) = P := ⟨_, rfl⟩
      rw [hP] at hpl HPm HPt HPc
      obtain ⟨o, n, m'⟩ := P
      dsimp only at hpl HPm HPt HPc
      rw [← hbr] at HPt
      obtain ⟨hn0, hn1, ho1⟩ := hpl
      have hn2 : (n : Int) ≤ (t.size : Int) := by omega
      have hn3 : (0 : Int) ≤ (n : Int) := by omega
      clear hP hbr
      rcases o with _ | ⟨x, _ | ⟨x2, o⟩⟩
      · have HN : Hid (R = true ↔ (-1 : Int) ∉ Pl.dD e (Pl.stM m') (t.extract n t.size).data.toList) := Lib.hid (by rw [HI.out, HPt.out, List.nil_append, extract_drop])
        go_wp2_with fail
        refine (HPc.out _).mono ?_
        rintro x1 w1 ⟨v1, rfl, ho, hb⟩
        obtain ⟨p1, c1, rfl⟩ := own_form ho
        have HB1 := Lib.hid (bthen HB.out hb)
        clear ho hb HPc HI HPt HR
        go_wp2_with fail
        refine wp_loop_rounds 1 ?_
        rw [rounds_succ]
        go_wp2_with fail
        go_roundw
        case rel => exact ⟨t.extract n t.size, m', rfl, rfl, by rw [ByteArray.size_extract]; omega, HPm, HN, HB1⟩
        case measure => simp [szOf, ByteArray.size_extract]; omega
      · by_cases hx : x = -1
        · subst hx
          have hRf : R = false := by
            cases R
            · rfl
            · exact absurd (by rw [HPt.out]; simp) (HI.out.1 rfl)
          subst hRf
          go_wp2_with fail
          refine (HPc.out _).mono ?_
          rintro x1 w1 ⟨v1, rfl, ho, hb⟩
          obtain ⟨g1, cap1, rfl, _, _⟩ := World.ownsRow.form ho (by simp)
          have c1 : w1.cell? ⟨g1, 0, none⟩ = some (.int .i64 (-1)) := ho.cellAt 0 (by simp)
          have HB1 := Lib.hid (bthen HB.out hb)
          clear ho hb HPc HI HPt HR
          go_wp2_with fail
          refine wp_loop_rounds 2 ?_
          rw [rounds_succ]
          go_wp2_with fail
          go_ret
          exact ⟨rfl, HB1.out⟩
        · have hxb : (x == -1) = false := beq_eq_false_iff_ne.2 hx
          have HN : Hid (R = true ↔ (-1 : Int) ∉ Pl.dD e (Pl.stM m') (t.extract n t.size).data.toList) := Lib.hid (by rw [HI.out, HPt.out, extract_drop]; simp [Ne.symm hx])
          go_wp2_with fail
          refine (HPc.out _).mono ?_
          rintro x1 w1 ⟨v1, rfl, ho, hb⟩
          obtain ⟨g1, cap1, rfl, _, _⟩ := World.ownsRow.form ho (by simp)
          have c1 : w1.cell? ⟨g1, 0, none⟩ = some (.int .i64 x) := ho.cellAt 0 (by simp)
          have HB1 := Lib.hid (bthen HB.out hb)
          clear ho hb HPc HI HPt HR
          go_wp2_with fail
          refine wp_loop_rounds 2 ?_
          rw [rounds_succ]
          go_wp2_with fail
          rw [rounds_succ]
          go_wp2_with fail
          clear c1
          go_roundw
          case rel => exact ⟨t.extract n t.size, m', rfl, rfl, by rw [ByteArray.size_extract]; omega, HPm, HN, HB1⟩
          case measure => simp [szOf, ByteArray.size_extract]; omega
      · simp at ho1
    · have ht : t.data.toList = [] := by
        have h0 : t.data.toList.length = t.size := by simp
        exact List.eq_nil_of_length_eq_zero (by omega)
      have he : t.toList.isEmpty = true := by
        rw [Lib.toList_data, ht]
        rfl
      have hRt : R = true := by
        rw [HI.out, ht, Pl.dD_nil]
        have : Pl.dEnd (Pl.stM m) = [] := by simp [Pl.dEnd, Pl.stM]
        rw [this]
        simp
      subst hRt
      clear ht
      go_wp2_with fail
      go_ret
      exact ⟨rfl, HB.out⟩
end Go.Proofs.YtefohnbmifblkaaDoor
