/-
  The walks of auto.Step, auto.Ends, score.bound and score.Weight: they return what the plain functions say.
-/
import Derived.Test.YtefohnbmifblkaaDoorAuA
namespace Go.Proofs.YtefohnbmifblkaaDoor
open Go.RowKit

set_option maxHeartbeats 2000000 in
theorem aStep_any (e s b : Int) (w : World) (he1 : 1 ≤ e) (he6 : e ≤ 6) (h0 : 0 ≤ s) (h9 : s ≤ 9) (hb0 : 0 ≤ b) (hb1 : b ≤ 255) :
    Calls Tryd.prog 63 #[.int .i64 e, .int .i64 s, .int .i64 b] w fun x w' => x = .returned (.int .i64 (Pl.aStep e s b)) ∧ w = w' := by
  by_cases hs : s = 9
  · subst hs
    rw [show Pl.aStep e 9 b = 9 from rfl]
    go_enter Tryd.func63, Tryd.ntmps63
    go_wp2
    go_ret
    exact ⟨rfl, rfl⟩
  · have h8 : s ≤ 8 := by omega
    rcases (show e = 1 ∨ e = 2 ∨ e = 3 ∨ e = 4 ∨ e = 5 ∨ e = 6 by omega) with rfl | rfl | rfl | rfl | rfl | rfl
    · have HR := Lib.hid (show Pl.aStep 1 s b = Pl.aUtf s b by unfold Pl.aStep; rw [if_neg hs]; rfl)
      clear hs he1 he6
      rw [HR.out]
      go_enter Tryd.func63, Tryd.ntmps63
      go_wp2_with (go_at_call 80; refine (aUtf_any _ _ _ h0 h8 hb0 hb1).mono ?_; rintro x w1 ⟨rfl, hw⟩; subst hw)
      go_ret
      exact ⟨rfl, rfl⟩
    · have HR := Lib.hid (show Pl.aStep 2 s b = Pl.aShift s b by unfold Pl.aStep; rw [if_neg hs]; rfl)
      clear hs he1 he6
      rw [HR.out]
      go_enter Tryd.func63, Tryd.ntmps63
      go_wp2_with (go_at_call 81; refine (aShift_any _ _ _ h0 h8 hb0 hb1).mono ?_; rintro x w1 ⟨rfl, hw⟩; subst hw)
      go_ret
      exact ⟨rfl, rfl⟩
    · have HR := Lib.hid (show Pl.aStep 3 s b = Pl.aTwin s b by unfold Pl.aStep; rw [if_neg hs]; rfl)
      clear hs he1 he6
      rw [HR.out]
      go_enter Tryd.func63, Tryd.ntmps63
      go_wp2_with (go_at_call 82; refine (aTwin_any _ _ _ h0 h8 hb0 hb1).mono ?_; rintro x w1 ⟨rfl, hw⟩; subst hw)
      go_ret
      exact ⟨rfl, rfl⟩
    · by_cases hz : s = 0
      · subst hz
        have HR := Lib.hid (show Pl.aStep 4 0 b = Pl.aLatin b from rfl)
        clear hs he1 he6
        rw [HR.out]
        go_enter Tryd.func63, Tryd.ntmps63
        go_wp2_with (go_at_call 83; refine (aLatin_any _ _ hb0 hb1).mono ?_; rintro x w1 ⟨rfl, hw⟩; subst hw)
        go_ret
        exact ⟨rfl, rfl⟩
      · have HR := Lib.hid (show Pl.aStep 4 s b = 9 by unfold Pl.aStep; rw [if_neg hs]; show (if s = 0 then _ else _ : Int) = 9; rw [if_neg hz])
        have hz' : (s == 0) = false := beq_eq_false_iff_ne.2 hz
        clear hs he1 he6 hz
        rw [HR.out]
        go_enter Tryd.func63, Tryd.ntmps63
        go_wp2
        go_ret
        exact ⟨rfl, rfl⟩
    · have HR := Lib.hid (show Pl.aStep 5 s b = Pl.aLow s b by unfold Pl.aStep; rw [if_neg hs]; rfl)
      clear hs he1 he6
      rw [HR.out]
      go_enter Tryd.func63, Tryd.ntmps63
      go_wp2_with (go_at_call 84; refine (aLow_any _ _ _ h0 h8 hb0 hb1).mono ?_; rintro x w1 ⟨rfl, hw⟩; subst hw)
      go_ret
      exact ⟨rfl, rfl⟩
    · have HR := Lib.hid (show Pl.aStep 6 s b = Pl.aHigh s b by unfold Pl.aStep; rw [if_neg hs]; rfl)
      clear hs he1 he6
      rw [HR.out]
      go_enter Tryd.func63, Tryd.ntmps63
      go_wp2_with (go_at_call 85; refine (aHigh_any _ _ _ h0 h8 hb0 hb1).mono ?_; rintro x w1 ⟨rfl, hw⟩; subst hw)
      go_ret
      exact ⟨rfl, rfl⟩

set_option maxHeartbeats 1000000 in
theorem aEnds_any (e s : Int) (w : World) :
    Calls Tryd.prog 79 #[.int .i64 e, .int .i64 s] w fun x w' => x = .returned (.bool (Pl.aEnds e s)) ∧ w = w' := by
  by_cases hs : s = 0
  · subst hs
    rw [show Pl.aEnds e 0 = true by simp [Pl.aEnds]]
    go_enter Tryd.func79, Tryd.ntmps79
    go_wp2
    go_ret
    exact ⟨rfl, rfl⟩
  · have a0 : (s == 0) = false := beq_eq_false_iff_ne.2 hs
    by_cases he : e = 2
    · subst he
      by_cases h1 : s = 1
      · subst h1
        rw [show Pl.aEnds 2 1 = true by simp [Pl.aEnds]]
        clear hs
        go_enter Tryd.func79, Tryd.ntmps79
        go_wp2
        go_ret
        exact ⟨rfl, rfl⟩
      · rw [show Pl.aEnds 2 s = false by simp [Pl.aEnds, hs, h1]]
        have a1 : (s == 1) = false := beq_eq_false_iff_ne.2 h1
        clear hs h1
        go_enter Tryd.func79, Tryd.ntmps79
        go_wp2
        go_ret
        exact ⟨rfl, rfl⟩
    · rw [show Pl.aEnds e s = false by simp [Pl.aEnds, hs, he]]
      have a1 : (e == 2) = false := beq_eq_false_iff_ne.2 he
      clear hs he
      go_enter Tryd.func79, Tryd.ntmps79
      go_wp2
      go_ret
      exact ⟨rfl, rfl⟩

set_option maxHeartbeats 1000000 in
/-- a sum that is not beyond 2^40 stays. -/
theorem bound_any (n : Int) (w : World) (h0 : -1099511627776 < n) (h1 : n ≤ 1099511627776) :
    Calls Tryd.prog 64 #[.int .i64 n] w fun x w' => x = .returned (.int .i64 n) ∧ w = w' := by
  go_enter Tryd.func64, Tryd.ntmps64
  go_wp2
  all_goals
    go_ret
    exact ⟨rfl, rfl⟩

set_option maxRecDepth 100000 in
set_option maxHeartbeats 4000000 in
theorem weight_any (e a b : Int) (w : World) (he1 : 1 ≤ e) (he6 : e ≤ 6) (ha0 : 0 ≤ a) (ha1 : a ≤ 255) (hb0 : 0 ≤ b) (hb1 : b ≤ 255) :
    Calls Tryd.prog 65 #[.int .i64 e, .int .i64 a, .int .i64 b] w fun x w' => x = .returned (.int .i64 (Pl.weight e a b)) ∧ w = w' := by
  obtain ⟨x, hx⟩ : ∃ x, Pl.cls a = x := ⟨_, rfl⟩
  obtain ⟨y, hy⟩ : ∃ y, Pl.cls b = y := ⟨_, rfl⟩
  have rx := Pl.cls_range a
  have ry := Pl.cls_range b
  rw [hx] at rx
  rw [hy] at ry
  obtain ⟨x0, x6⟩ := rx
  obtain ⟨y0, y6⟩ := ry
  have HW := Lib.hid (show Pl.weight e a b = Pl.wgt e a b x y by unfold Pl.weight; rw [hx, hy])
  have HX := Lib.hid hx
  have HY := Lib.hid hy
  clear hx hy
  rw [HW.out]
  rcases (show e = 1 ∨ e = 2 ∨ e = 3 ∨ e = 4 ∨ e = 5 ∨ e = 6 by omega) with rfl | rfl | rfl | rfl | rfl | rfl
  all_goals
    clear he1 he6 HW
    go_enter Tryd.func65, Tryd.ntmps65
    go_wp2_with fail
    refine (cls_any _ _ ha0 ha1).mono ?_
    rintro r w1 ⟨rfl, hw⟩
    subst hw
    rw [HX.out]
    go_wp2_with fail
    refine (cls_any _ _ hb0 hb1).mono ?_
    rintro r w2 ⟨rfl, hw⟩
    subst hw
    rw [HY.out]
    go_wp2
    all_goals
      go_ret
      refine ⟨ret_int ?_, rfl⟩
      try simp only [beq_iff_eq, beq_eq_false_iff_ne, bne_iff_ne, bne_eq_false_iff_eq] at *
      unfold Pl.wgt
      repeat' split
      all_goals first | rfl | omega
end Go.Proofs.YtefohnbmifblkaaDoor
