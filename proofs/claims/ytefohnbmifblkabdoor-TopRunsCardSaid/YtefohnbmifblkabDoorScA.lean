/-
  The walks of score.Step and score.Best, at the seven pairs written out: they return what the plain functions say.
-/
import Derived.Test.YtefohnbmifblkabDoorAuB
import Derived.Laws.Rows
import Derived.Laws.Tables
namespace Go.Proofs.YtefohnbmifblkabDoor
open Go.RowKit

theorem bound_small (n : Int) (w : World) (h : -1000000 ≤ n ∧ n ≤ 1000000) :
    Calls Tryd.prog 35 #[.int .i64 n] w fun x w' => x = .returned (.int .i64 n) ∧ w = w' := bound_any n w (by omega) (by omega)

set_option maxRecDepth 100000 in
set_option maxHeartbeats 8000000 in
theorem sStep_first (x0 y0 a1 b1 a2 b2 a3 b3 a4 b4 a5 b5 a6 b6 b : Int) (w : World) (hx0 : 0 ≤ b) (hx1 : b ≤ 255) (ha1 : Hid (0 ≤ a1 ∧ a1 ≤ 9)) (ha2 : Hid (0 ≤ a2 ∧ a2 ≤ 9)) (ha3 : Hid (0 ≤ a3 ∧ a3 ≤ 9)) (ha4 : Hid (0 ≤ a4 ∧ a4 ≤ 9)) (ha5 : Hid (0 ≤ a5 ∧ a5 ≤ 9)) (ha6 : Hid (0 ≤ a6 ∧ a6 ≤ 9)) :
    Calls Tryd.prog 24 #[.agg #[.int .i64 x0, .int .i64 y0, .int .i64 a1, .int .i64 b1, .int .i64 a2, .int .i64 b2, .int .i64 a3, .int .i64 b3, .int .i64 a4, .int .i64 b4, .int .i64 a5, .int .i64 b5, .int .i64 a6, .int .i64 b6], .int .i64 (-1), .int .i64 b] w fun e w' => e = .returned (.agg #[.int .i64 x0, .int .i64 y0, .int .i64 (Pl.aStep 1 a1 b), .int .i64 b1, .int .i64 (Pl.aStep 2 a2 b), .int .i64 b2, .int .i64 (Pl.aStep 3 a3 b), .int .i64 b3, .int .i64 (Pl.aStep 4 a4 b), .int .i64 b4, .int .i64 (Pl.aStep 5 a5 b), .int .i64 b5, .int .i64 (Pl.aStep 6 a6 b), .int .i64 b6]) ∧ Below w.heap.size w w' := by
  go_enter Tryd.func24, Tryd.ntmps24
  go_wp2_with fail
  refine wp_loop_rounds 7 ?_
  rw [rounds_succ]
  go_wp2_with fail
  refine (aStep_any _ _ _ _ (by omega) (by omega) ha1.out.1 ha1.out.2 hx0 hx1).mono ?_
  rintro e w1 ⟨rfl, hw⟩
  subst hw
  go_wp2_with fail
  rw [rounds_succ]
  go_wp2_with fail
  refine (aStep_any _ _ _ _ (by omega) (by omega) ha2.out.1 ha2.out.2 hx0 hx1).mono ?_
  rintro e w1 ⟨rfl, hw⟩
  subst hw
  go_wp2_with fail
  rw [rounds_succ]
  go_wp2_with fail
  refine (aStep_any _ _ _ _ (by omega) (by omega) ha3.out.1 ha3.out.2 hx0 hx1).mono ?_
  rintro e w1 ⟨rfl, hw⟩
  subst hw
  go_wp2_with fail
  rw [rounds_succ]
  go_wp2_with fail
  refine (aStep_any _ _ _ _ (by omega) (by omega) ha4.out.1 ha4.out.2 hx0 hx1).mono ?_
  rintro e w1 ⟨rfl, hw⟩
  subst hw
  go_wp2_with fail
  rw [rounds_succ]
  go_wp2_with fail
  refine (aStep_any _ _ _ _ (by omega) (by omega) ha5.out.1 ha5.out.2 hx0 hx1).mono ?_
  rintro e w1 ⟨rfl, hw⟩
  subst hw
  go_wp2_with fail
  rw [rounds_succ]
  go_wp2_with fail
  refine (aStep_any _ _ _ _ (by omega) (by omega) ha6.out.1 ha6.out.2 hx0 hx1).mono ?_
  rintro e w1 ⟨rfl, hw⟩
  subst hw
  go_wp2_with fail
  rw [rounds_succ]
  go_wp2_with fail
  refine bodyPost_ret (v := .agg #[.int .i64 x0, .int .i64 y0, .int .i64 (Pl.aStep 1 a1 b), .int .i64 b1, .int .i64 (Pl.aStep 2 a2 b), .int .i64 b2, .int .i64 (Pl.aStep 3 a3 b), .int .i64 b3, .int .i64 (Pl.aStep 4 a4 b), .int .i64 b4, .int .i64 (Pl.aStep 5 a5 b), .int .i64 b5, .int .i64 (Pl.aStep 6 a6 b), .int .i64 b6]) (by simp [results, Tryd.results24, go_sem]) rfl ⟨rfl, ?_⟩
  repeat (first | exact Below.refl _ _ | refine Below.alloc ?_ (by simp) _ | refine Below.setCell ?_ (by simp) _)

set_option maxRecDepth 100000 in
set_option maxHeartbeats 16000000 in
theorem sStep_later (x0 y0 a1 b1 a2 b2 a3 b3 a4 b4 a5 b5 a6 b6 last b : Int) (w : World) (hl0 : 0 ≤ last) (hl1 : last ≤ 255) (hx0 : 0 ≤ b) (hx1 : b ≤ 255) (ha1 : Hid (0 ≤ a1 ∧ a1 ≤ 9)) (ha2 : Hid (0 ≤ a2 ∧ a2 ≤ 9)) (ha3 : Hid (0 ≤ a3 ∧ a3 ≤ 9)) (ha4 : Hid (0 ≤ a4 ∧ a4 ≤ 9)) (ha5 : Hid (0 ≤ a5 ∧ a5 ≤ 9)) (ha6 : Hid (0 ≤ a6 ∧ a6 ≤ 9)) (hb1 : Hid (-1000000 ≤ b1 ∧ b1 ≤ 1000000)) (hb2 : Hid (-1000000 ≤ b2 ∧ b2 ≤ 1000000)) (hb3 : Hid (-1000000 ≤ b3 ∧ b3 ≤ 1000000)) (hb4 : Hid (-1000000 ≤ b4 ∧ b4 ≤ 1000000)) (hb5 : Hid (-1000000 ≤ b5 ∧ b5 ≤ 1000000)) (hb6 : Hid (-1000000 ≤ b6 ∧ b6 ≤ 1000000)) :
    Calls Tryd.prog 24 #[.agg #[.int .i64 x0, .int .i64 y0, .int .i64 a1, .int .i64 b1, .int .i64 a2, .int .i64 b2, .int .i64 a3, .int .i64 b3, .int .i64 a4, .int .i64 b4, .int .i64 a5, .int .i64 b5, .int .i64 a6, .int .i64 b6], .int .i64 last, .int .i64 b] w fun e w' => e = .returned (.agg #[.int .i64 x0, .int .i64 y0, .int .i64 (Pl.aStep 1 a1 b), .int .i64 (b1 + Pl.weight 1 last b), .int .i64 (Pl.aStep 2 a2 b), .int .i64 (b2 + Pl.weight 2 last b), .int .i64 (Pl.aStep 3 a3 b), .int .i64 (b3 + Pl.weight 3 last b), .int .i64 (Pl.aStep 4 a4 b), .int .i64 (b4 + Pl.weight 4 last b), .int .i64 (Pl.aStep 5 a5 b), .int .i64 (b5 + Pl.weight 5 last b), .int .i64 (Pl.aStep 6 a6 b), .int .i64 (b6 + Pl.weight 6 last b)]) ∧ Below w.heap.size w w' := by
  go_enter Tryd.func24, Tryd.ntmps24
  go_wp2_with fail
  refine wp_loop_rounds 7 ?_
  rw [rounds_succ]
  go_wp2_with fail
  refine (aStep_any _ _ _ _ (by omega) (by omega) ha1.out.1 ha1.out.2 hx0 hx1).mono ?_
  rintro e w1 ⟨rfl, hw⟩
  subst hw
  go_wp2_with fail
  refine (bound_small _ _ hb1.out).mono ?_
  rintro e w1 ⟨rfl, hw⟩
  subst hw
  go_wp2_with fail
  refine (weight_any _ _ _ _ (by omega) (by omega) hl0 hl1 hx0 hx1).mono ?_
  rintro e w1 ⟨rfl, hw⟩
  subst hw
  have hbl1 := hb1.out.1
  have hbu1 := hb1.out.2
  have hwl1 : -1 ≤ Pl.weight 1 last b := (Pl.wgt_range _ _ _ _ _).1
  have hwu1 : Pl.weight 1 last b ≤ 8 := (Pl.wgt_range _ _ _ _ _).2
  go_wp2_with fail
  clear hbl1 hbu1 hwl1 hwu1
  rw [rounds_succ]
  go_wp2_with fail
  refine (aStep_any _ _ _ _ (by omega) (by omega) ha2.out.1 ha2.out.2 hx0 hx1).mono ?_
  rintro e w1 ⟨rfl, hw⟩
  subst hw
  go_wp2_with fail
  refine (bound_small _ _ hb2.out).mono ?_
  rintro e w1 ⟨rfl, hw⟩
  subst hw
  go_wp2_with fail
  refine (weight_any _ _ _ _ (by omega) (by omega) hl0 hl1 hx0 hx1).mono ?_
  rintro e w1 ⟨rfl, hw⟩
  subst hw
  have hbl2 := hb2.out.1
  have hbu2 := hb2.out.2
  have hwl2 : -1 ≤ Pl.weight 2 last b := (Pl.wgt_range _ _ _ _ _).1
  have hwu2 : Pl.weight 2 last b ≤ 8 := (Pl.wgt_range _ _ _ _ _).2
  go_wp2_with fail
  clear hbl2 hbu2 hwl2 hwu2
  rw [rounds_succ]
  go_wp2_with fail
  refine (aStep_any _ _ _ _ (by omega) (by omega) ha3.out.1 ha3.out.2 hx0 hx1).mono ?_
  rintro e w1 ⟨rfl, hw⟩
  subst hw
  go_wp2_with fail
  refine (bound_small _ _ hb3.out).mono ?_
  rintro e w1 ⟨rfl, hw⟩
  subst hw
  go_wp2_with fail
  refine (weight_any _ _ _ _ (by omega) (by omega) hl0 hl1 hx0 hx1).mono ?_
  rintro e w1 ⟨rfl, hw⟩
  subst hw
  have hbl3 := hb3.out.1
  have hbu3 := hb3.out.2
  have hwl3 : -1 ≤ Pl.weight 3 last b := (Pl.wgt_range _ _ _ _ _).1
  have hwu3 : Pl.weight 3 last b ≤ 8 := (Pl.wgt_range _ _ _ _ _).2
  go_wp2_with fail
  clear hbl3 hbu3 hwl3 hwu3
  rw [rounds_succ]
  go_wp2_with fail
  refine (aStep_any _ _ _ _ (by omega) (by omega) ha4.out.1 ha4.out.2 hx0 hx1).mono ?_
  rintro e w1 ⟨rfl, hw⟩
  subst hw
  go_wp2_with fail
  refine (bound_small _ _ hb4.out).mono ?_
  rintro e w1 ⟨rfl, hw⟩
  subst hw
  go_wp2_with fail
  refine (weight_any _ _ _ _ (by omega) (by omega) hl0 hl1 hx0 hx1).mono ?_
  rintro e w1 ⟨rfl, hw⟩
  subst hw
  have hbl4 := hb4.out.1
  have hbu4 := hb4.out.2
  have hwl4 : -1 ≤ Pl.weight 4 last b := (Pl.wgt_range _ _ _ _ _).1
  have hwu4 : Pl.weight 4 last b ≤ 8 := (Pl.wgt_range _ _ _ _ _).2
  go_wp2_with fail
  clear hbl4 hbu4 hwl4 hwu4
  rw [rounds_succ]
  go_wp2_with fail
  refine (aStep_any _ _ _ _ (by omega) (by omega) ha5.out.1 ha5.out.2 hx0 hx1).mono ?_
  rintro e w1 ⟨rfl, hw⟩
  subst hw
  go_wp2_with fail
  refine (bound_small _ _ hb5.out).mono ?_
  rintro e w1 ⟨rfl, hw⟩
  subst hw
  go_wp2_with fail
  refine (weight_any _ _ _ _ (by omega) (by omega) hl0 hl1 hx0 hx1).mono ?_
  rintro e w1 ⟨rfl, hw⟩
  subst hw
  have hbl5 := hb5.out.1
  have hbu5 := hb5.out.2
  have hwl5 : -1 ≤ Pl.weight 5 last b := (Pl.wgt_range _ _ _ _ _).1
  have hwu5 : Pl.weight 5 last b ≤ 8 := (Pl.wgt_range _ _ _ _ _).2
  go_wp2_with fail
  clear hbl5 hbu5 hwl5 hwu5
  rw [rounds_succ]
  go_wp2_with fail
  refine (aStep_any _ _ _ _ (by omega) (by omega) ha6.out.1 ha6.out.2 hx0 hx1).mono ?_
  rintro e w1 ⟨rfl, hw⟩
  subst hw
  go_wp2_with fail
  refine (bound_small _ _ hb6.out).mono ?_
  rintro e w1 ⟨rfl, hw⟩
  subst hw
  go_wp2_with fail
  refine (weight_any _ _ _ _ (by omega) (by omega) hl0 hl1 hx0 hx1).mono ?_
  rintro e w1 ⟨rfl, hw⟩
  subst hw
  have hbl6 := hb6.out.1
  have hbu6 := hb6.out.2
  have hwl6 : -1 ≤ Pl.weight 6 last b := (Pl.wgt_range _ _ _ _ _).1
  have hwu6 : Pl.weight 6 last b ≤ 8 := (Pl.wgt_range _ _ _ _ _).2
  go_wp2_with fail
  clear hbl6 hbu6 hwl6 hwu6
  rw [rounds_succ]
  go_wp2_with fail
  refine bodyPost_ret (v := .agg #[.int .i64 x0, .int .i64 y0, .int .i64 (Pl.aStep 1 a1 b), .int .i64 (b1 + Pl.weight 1 last b), .int .i64 (Pl.aStep 2 a2 b), .int .i64 (b2 + Pl.weight 2 last b), .int .i64 (Pl.aStep 3 a3 b), .int .i64 (b3 + Pl.weight 3 last b), .int .i64 (Pl.aStep 4 a4 b), .int .i64 (b4 + Pl.weight 4 last b), .int .i64 (Pl.aStep 5 a5 b), .int .i64 (b5 + Pl.weight 5 last b), .int .i64 (Pl.aStep 6 a6 b), .int .i64 (b6 + Pl.weight 6 last b)]) (by simp [results, Tryd.results24, go_sem]) rfl ⟨rfl, ?_⟩
  repeat (first | exact Below.refl _ _ | refine Below.alloc ?_ (by simp) _ | refine Below.setCell ?_ (by simp) _)
end Go.Proofs.YtefohnbmifblkabDoor
