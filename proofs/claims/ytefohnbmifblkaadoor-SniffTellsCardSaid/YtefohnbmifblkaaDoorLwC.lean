/-
  The walk of the law SniffTells: it returns true for all texts, in every world that holds the two tables of marks and in which the library's one variable holds a number; nothing that was there is changed.
-/
import Derived.Test.YtefohnbmifblkaaDoorRfD
import Derived.Test.YtefohnbmifblkaaDoorSnG
namespace Go.Proofs.YtefohnbmifblkaaDoor
open Go.RowKit

theorem mx_of_shape {W : World} (h : W.ShapedOpen Tryd.prog) : Mx W := Tryd.laysM146.s1_3 W h

set_option maxHeartbeats 1000000 in
theorem lawSniffs_any (w : World) (hg : Gl w) :
    Calls Tryd.prog 22 #[] w fun e w' => e = .returned (.bool true) ∧ Below w.heap.size w w' := by
  have HG := Lib.hid hg
  clear hg
  have e2 := Lib.hid (show Pl.label (ByteArray.mk #[60, 109, 101, 116, 97, 32, 99, 104, 97, 114, 115, 101, 116, 61, 34, 116, 119, 105, 110, 34, 62]).data.toList = (3, true) by decide +kernel)
  go_enter Tryd.func22, Tryd.ntmps22
  go_wp2_with (first
    | (go_at_call 17; refine (mark_any _ _ HG.out).mono ?_; rintro e w1 ⟨rfl, hd1⟩; rw [show Pl.mark (ByteArray.mk #[255, 254, 97]).data.toList = (5, 2) from rfl])
    | (go_at_call 16; refine (labelFn_any _ _ (by decide)).mono ?_; rintro e w2 ⟨rfl, hb2⟩; rw [e2.out]))
  go_ret
  exact ⟨rfl, bthen hd1.below hb2⟩

set_option maxRecDepth 100000 in
set_option maxHeartbeats 2000000 in
theorem sniffTells_walk (s : ByteArray) (w : World) (hs : s.size ≤ maxLen) (hg : Gl w) (hmx : Mx w) :
    Calls Tryd.prog 5 #[.string s] w fun e w' => e = .returned (.bool true) ∧ Below w.heap.size w w' := by
  have HZ := Lib.hid hs
  have HG := Lib.hid hg
  have HM := Lib.hid hmx
  clear hs hg hmx
  rcases hm : Pl.mark s.data.toList with ⟨a, n⟩
  rcases hl : Pl.label s.data.toList with ⟨x, u⟩
  obtain ⟨p, hp⟩ : ∃ p, Pl.mayMark s.data.toList = p := ⟨_, rfl⟩
  have H1 := Lib.hid hm
  have H2 := Lib.hid hl
  have H3 := Lib.hid hp
  clear hm hl hp
  have ha : (a == a) = true := by simp
  have hn : (n == n) = true := by simp
  have hx : (x == x) = true := by simp
  have hu : (u == u) = true := by simp
  have hpp : (p == p) = true := by simp
  go_enter Tryd.func5, Tryd.ntmps5
  go_wp2_with fail
  refine (mark_any _ _ HG.out).mono ?_
  rintro e w1 ⟨rfl, hd1⟩
  rw [H1.out]
  have HB := hd1.below (B := w.heap.size)
  go_wp2_with fail
  refine (markOf_any _ _).mono ?_
  rintro e w2 ⟨rfl, hw⟩
  subst hw
  rw [H1.out]
  go_wp2_with fail
  refine (labelFn_any _ _ HZ.out).mono ?_
  rintro e w3 ⟨rfl, hb3⟩
  rw [H2.out]
  replace HB := bthen HB hb3
  go_wp2_with fail
  refine (labelOf_any _ _ HZ.out (HM.out.below HB)).mono ?_
  rintro e w4 ⟨rfl, hb4⟩
  rw [H2.out]
  replace HB := bthen HB hb4
  go_wp2_with fail
  refine (mayMark_any _ _ (HG.out.below HB) HZ.out).mono ?_
  rintro e w5 ⟨rfl, hd5⟩
  rw [H3.out]
  replace HB := bthen HB hd5.below
  go_wp2_with fail
  refine (mayBe_any _ _).mono ?_
  rintro e w6 ⟨rfl, hw⟩
  subst hw
  rw [H3.out]
  go_wp2_with fail
  refine (lawSniffs_any _ (HG.out.below HB)).mono ?_
  rintro e w7 ⟨rfl, hb7⟩
  go_wp2
  go_ret
  exact ⟨rfl, bthen HB hb7⟩
end Go.Proofs.YtefohnbmifblkaaDoor
