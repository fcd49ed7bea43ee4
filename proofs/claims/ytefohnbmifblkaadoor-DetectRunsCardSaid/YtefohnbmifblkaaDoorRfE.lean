/-
  The references' classes and weights: they are the program's.
-/
import Derived.Test.YtefohnbmifblkaaDoorMem
import Derived.Test.YtefohnbmifblkaaDoorPlD
import Derived.Test.YtefohnbmifblkaaDoorRows
namespace Go.Proofs.YtefohnbmifblkaaDoor
open Go.RowKit

set_option maxHeartbeats 1000000 in
theorem classOf_0 (b : Int) (w : World) (_h0 : 0 ≤ b) (h : 192 ≤ b) :
    Calls Tryd.prog 90 #[.int .i64 b] w fun e w' => e = .returned (.int .i64 (Pl.cls b)) ∧ w = w' := by
  have z9 : (b == 9) = false := by rw [beq_eq_false_iff_ne]; omega
  have z10 : (b == 10) = false := by rw [beq_eq_false_iff_ne]; omega
  have z13 : (b == 13) = false := by rw [beq_eq_false_iff_ne]; omega
  have z32 : (b == 32) = false := by rw [beq_eq_false_iff_ne]; omega
  have z127 : (b == 127) = false := by rw [beq_eq_false_iff_ne]; omega
  have hc : Pl.cls b = 6 := by
    unfold Pl.cls
    repeat' split
    all_goals omega
  rw [hc]
  clear hc
  go_enter Tryd.func90, Tryd.ntmps90
  go_wp2
  go_ret
  exact ⟨rfl, rfl⟩
set_option maxHeartbeats 1000000 in
theorem classOf_1 (b : Int) (w : World) (_h0 : 0 ≤ b) (h : 128 ≤ b ∧ b ≤ 191) :
    Calls Tryd.prog 90 #[.int .i64 b] w fun e w' => e = .returned (.int .i64 (Pl.cls b)) ∧ w = w' := by
  obtain ⟨k0, k1⟩ := h
  have z9 : (b == 9) = false := by rw [beq_eq_false_iff_ne]; omega
  have z10 : (b == 10) = false := by rw [beq_eq_false_iff_ne]; omega
  have z13 : (b == 13) = false := by rw [beq_eq_false_iff_ne]; omega
  have z32 : (b == 32) = false := by rw [beq_eq_false_iff_ne]; omega
  have z127 : (b == 127) = false := by rw [beq_eq_false_iff_ne]; omega
  have hc : Pl.cls b = 5 := by
    unfold Pl.cls
    repeat' split
    all_goals omega
  rw [hc]
  clear hc
  go_enter Tryd.func90, Tryd.ntmps90
  go_wp2
  go_ret
  exact ⟨rfl, rfl⟩
set_option maxHeartbeats 1000000 in
theorem classOf_2 (b : Int) (w : World) (_h0 : 0 ≤ b) (h : b = 9) :
    Calls Tryd.prog 90 #[.int .i64 b] w fun e w' => e = .returned (.int .i64 (Pl.cls b)) ∧ w = w' := by
  subst h
  rw [show Pl.cls 9 = 1 from rfl]
  go_enter Tryd.func90, Tryd.ntmps90
  go_wp2
  go_ret
  exact ⟨rfl, rfl⟩
set_option maxHeartbeats 1000000 in
theorem classOf_3 (b : Int) (w : World) (_h0 : 0 ≤ b) (h : b = 10) :
    Calls Tryd.prog 90 #[.int .i64 b] w fun e w' => e = .returned (.int .i64 (Pl.cls b)) ∧ w = w' := by
  subst h
  rw [show Pl.cls 10 = 1 from rfl]
  go_enter Tryd.func90, Tryd.ntmps90
  go_wp2
  go_ret
  exact ⟨rfl, rfl⟩
set_option maxHeartbeats 1000000 in
theorem classOf_4 (b : Int) (w : World) (_h0 : 0 ≤ b) (h : b = 13) :
    Calls Tryd.prog 90 #[.int .i64 b] w fun e w' => e = .returned (.int .i64 (Pl.cls b)) ∧ w = w' := by
  subst h
  rw [show Pl.cls 13 = 1 from rfl]
  go_enter Tryd.func90, Tryd.ntmps90
  go_wp2
  go_ret
  exact ⟨rfl, rfl⟩
set_option maxHeartbeats 1000000 in
theorem classOf_5 (b : Int) (w : World) (_h0 : 0 ≤ b) (h : b = 32) :
    Calls Tryd.prog 90 #[.int .i64 b] w fun e w' => e = .returned (.int .i64 (Pl.cls b)) ∧ w = w' := by
  subst h
  rw [show Pl.cls 32 = 1 from rfl]
  go_enter Tryd.func90, Tryd.ntmps90
  go_wp2
  go_ret
  exact ⟨rfl, rfl⟩
set_option maxHeartbeats 1000000 in
theorem classOf_6 (b : Int) (w : World) (_h0 : 0 ≤ b) (h : b ≤ 8) :
    Calls Tryd.prog 90 #[.int .i64 b] w fun e w' => e = .returned (.int .i64 (Pl.cls b)) ∧ w = w' := by
  have z9 : (b == 9) = false := by rw [beq_eq_false_iff_ne]; omega
  have z10 : (b == 10) = false := by rw [beq_eq_false_iff_ne]; omega
  have z13 : (b == 13) = false := by rw [beq_eq_false_iff_ne]; omega
  have z32 : (b == 32) = false := by rw [beq_eq_false_iff_ne]; omega
  have z127 : (b == 127) = false := by rw [beq_eq_false_iff_ne]; omega
  have hc : Pl.cls b = 4 := by
    unfold Pl.cls
    repeat' split
    all_goals omega
  rw [hc]
  clear hc
  go_enter Tryd.func90, Tryd.ntmps90
  go_wp2
  go_ret
  exact ⟨rfl, rfl⟩
set_option maxHeartbeats 1000000 in
theorem classOf_7 (b : Int) (w : World) (_h0 : 0 ≤ b) (h : 11 ≤ b ∧ b ≤ 12) :
    Calls Tryd.prog 90 #[.int .i64 b] w fun e w' => e = .returned (.int .i64 (Pl.cls b)) ∧ w = w' := by
  obtain ⟨k0, k1⟩ := h
  have z9 : (b == 9) = false := by rw [beq_eq_false_iff_ne]; omega
  have z10 : (b == 10) = false := by rw [beq_eq_false_iff_ne]; omega
  have z13 : (b == 13) = false := by rw [beq_eq_false_iff_ne]; omega
  have z32 : (b == 32) = false := by rw [beq_eq_false_iff_ne]; omega
  have z127 : (b == 127) = false := by rw [beq_eq_false_iff_ne]; omega
  have hc : Pl.cls b = 4 := by
    unfold Pl.cls
    repeat' split
    all_goals omega
  rw [hc]
  clear hc
  go_enter Tryd.func90, Tryd.ntmps90
  go_wp2
  go_ret
  exact ⟨rfl, rfl⟩
set_option maxHeartbeats 1000000 in
theorem classOf_8 (b : Int) (w : World) (_h0 : 0 ≤ b) (h : 14 ≤ b ∧ b ≤ 31) :
    Calls Tryd.prog 90 #[.int .i64 b] w fun e w' => e = .returned (.int .i64 (Pl.cls b)) ∧ w = w' := by
  obtain ⟨k0, k1⟩ := h
  have z9 : (b == 9) = false := by rw [beq_eq_false_iff_ne]; omega
  have z10 : (b == 10) = false := by rw [beq_eq_false_iff_ne]; omega
  have z13 : (b == 13) = false := by rw [beq_eq_false_iff_ne]; omega
  have z32 : (b == 32) = false := by rw [beq_eq_false_iff_ne]; omega
  have z127 : (b == 127) = false := by rw [beq_eq_false_iff_ne]; omega
  have hc : Pl.cls b = 4 := by
    unfold Pl.cls
    repeat' split
    all_goals omega
  rw [hc]
  clear hc
  go_enter Tryd.func90, Tryd.ntmps90
  go_wp2
  go_ret
  exact ⟨rfl, rfl⟩
set_option maxHeartbeats 1000000 in
theorem classOf_9 (b : Int) (w : World) (_h0 : 0 ≤ b) (h : b = 127) :
    Calls Tryd.prog 90 #[.int .i64 b] w fun e w' => e = .returned (.int .i64 (Pl.cls b)) ∧ w = w' := by
  subst h
  rw [show Pl.cls 127 = 4 from rfl]
  go_enter Tryd.func90, Tryd.ntmps90
  go_wp2
  go_ret
  exact ⟨rfl, rfl⟩
set_option maxHeartbeats 1000000 in
theorem classOf_10 (b : Int) (w : World) (_h0 : 0 ≤ b) (h : 48 ≤ b ∧ b ≤ 57) :
    Calls Tryd.prog 90 #[.int .i64 b] w fun e w' => e = .returned (.int .i64 (Pl.cls b)) ∧ w = w' := by
  obtain ⟨k0, k1⟩ := h
  have z9 : (b == 9) = false := by rw [beq_eq_false_iff_ne]; omega
  have z10 : (b == 10) = false := by rw [beq_eq_false_iff_ne]; omega
  have z13 : (b == 13) = false := by rw [beq_eq_false_iff_ne]; omega
  have z32 : (b == 32) = false := by rw [beq_eq_false_iff_ne]; omega
  have z127 : (b == 127) = false := by rw [beq_eq_false_iff_ne]; omega
  have hc : Pl.cls b = 2 := by
    unfold Pl.cls
    repeat' split
    all_goals omega
  rw [hc]
  clear hc
  go_enter Tryd.func90, Tryd.ntmps90
  go_wp2
  go_ret
  exact ⟨rfl, rfl⟩
set_option maxHeartbeats 1000000 in
theorem classOf_11 (b : Int) (w : World) (_h0 : 0 ≤ b) (h : 65 ≤ b ∧ b ≤ 90) :
    Calls Tryd.prog 90 #[.int .i64 b] w fun e w' => e = .returned (.int .i64 (Pl.cls b)) ∧ w = w' := by
  obtain ⟨k0, k1⟩ := h
  have z9 : (b == 9) = false := by rw [beq_eq_false_iff_ne]; omega
  have z10 : (b == 10) = false := by rw [beq_eq_false_iff_ne]; omega
  have z13 : (b == 13) = false := by rw [beq_eq_false_iff_ne]; omega
  have z32 : (b == 32) = false := by rw [beq_eq_false_iff_ne]; omega
  have z127 : (b == 127) = false := by rw [beq_eq_false_iff_ne]; omega
  have hc : Pl.cls b = 0 := by
    unfold Pl.cls
    repeat' split
    all_goals omega
  rw [hc]
  clear hc
  go_enter Tryd.func90, Tryd.ntmps90
  go_wp2
  go_ret
  exact ⟨rfl, rfl⟩
set_option maxHeartbeats 1000000 in
theorem classOf_12 (b : Int) (w : World) (_h0 : 0 ≤ b) (h : 97 ≤ b ∧ b ≤ 122) :
    Calls Tryd.prog 90 #[.int .i64 b] w fun e w' => e = .returned (.int .i64 (Pl.cls b)) ∧ w = w' := by
  obtain ⟨k0, k1⟩ := h
  have z9 : (b == 9) = false := by rw [beq_eq_false_iff_ne]; omega
  have z10 : (b == 10) = false := by rw [beq_eq_false_iff_ne]; omega
  have z13 : (b == 13) = false := by rw [beq_eq_false_iff_ne]; omega
  have z32 : (b == 32) = false := by rw [beq_eq_false_iff_ne]; omega
  have z127 : (b == 127) = false := by rw [beq_eq_false_iff_ne]; omega
  have hc : Pl.cls b = 0 := by
    unfold Pl.cls
    repeat' split
    all_goals omega
  rw [hc]
  clear hc
  go_enter Tryd.func90, Tryd.ntmps90
  go_wp2
  go_ret
  exact ⟨rfl, rfl⟩
set_option maxHeartbeats 1000000 in
theorem classOf_13 (b : Int) (w : World) (_h0 : 0 ≤ b) (h : 33 ≤ b ∧ b ≤ 47) :
    Calls Tryd.prog 90 #[.int .i64 b] w fun e w' => e = .returned (.int .i64 (Pl.cls b)) ∧ w = w' := by
  obtain ⟨k0, k1⟩ := h
  have z9 : (b == 9) = false := by rw [beq_eq_false_iff_ne]; omega
  have z10 : (b == 10) = false := by rw [beq_eq_false_iff_ne]; omega
  have z13 : (b == 13) = false := by rw [beq_eq_false_iff_ne]; omega
  have z32 : (b == 32) = false := by rw [beq_eq_false_iff_ne]; omega
  have z127 : (b == 127) = false := by rw [beq_eq_false_iff_ne]; omega
  have hc : Pl.cls b = 3 := by
    unfold Pl.cls
    repeat' split
    all_goals omega
  rw [hc]
  clear hc
  go_enter Tryd.func90, Tryd.ntmps90
  go_wp2
  go_ret
  exact ⟨rfl, rfl⟩
set_option maxHeartbeats 1000000 in
theorem classOf_14 (b : Int) (w : World) (_h0 : 0 ≤ b) (h : 58 ≤ b ∧ b ≤ 64) :
    Calls Tryd.prog 90 #[.int .i64 b] w fun e w' => e = .returned (.int .i64 (Pl.cls b)) ∧ w = w' := by
  obtain ⟨k0, k1⟩ := h
  have z9 : (b == 9) = false := by rw [beq_eq_false_iff_ne]; omega
  have z10 : (b == 10) = false := by rw [beq_eq_false_iff_ne]; omega
  have z13 : (b == 13) = false := by rw [beq_eq_false_iff_ne]; omega
  have z32 : (b == 32) = false := by rw [beq_eq_false_iff_ne]; omega
  have z127 : (b == 127) = false := by rw [beq_eq_false_iff_ne]; omega
  have hc : Pl.cls b = 3 := by
    unfold Pl.cls
    repeat' split
    all_goals omega
  rw [hc]
  clear hc
  go_enter Tryd.func90, Tryd.ntmps90
  go_wp2
  go_ret
  exact ⟨rfl, rfl⟩
set_option maxHeartbeats 1000000 in
theorem classOf_15 (b : Int) (w : World) (_h0 : 0 ≤ b) (h : 91 ≤ b ∧ b ≤ 96) :
    Calls Tryd.prog 90 #[.int .i64 b] w fun e w' => e = .returned (.int .i64 (Pl.cls b)) ∧ w = w' := by
  obtain ⟨k0, k1⟩ := h
  have z9 : (b == 9) = false := by rw [beq_eq_false_iff_ne]; omega
  have z10 : (b == 10) = false := by rw [beq_eq_false_iff_ne]; omega
  have z13 : (b == 13) = false := by rw [beq_eq_false_iff_ne]; omega
  have z32 : (b == 32) = false := by rw [beq_eq_false_iff_ne]; omega
  have z127 : (b == 127) = false := by rw [beq_eq_false_iff_ne]; omega
  have hc : Pl.cls b = 3 := by
    unfold Pl.cls
    repeat' split
    all_goals omega
  rw [hc]
  clear hc
  go_enter Tryd.func90, Tryd.ntmps90
  go_wp2
  go_ret
  exact ⟨rfl, rfl⟩
set_option maxHeartbeats 1000000 in
theorem classOf_16 (b : Int) (w : World) (_h0 : 0 ≤ b) (h : 123 ≤ b ∧ b ≤ 126) :
    Calls Tryd.prog 90 #[.int .i64 b] w fun e w' => e = .returned (.int .i64 (Pl.cls b)) ∧ w = w' := by
  obtain ⟨k0, k1⟩ := h
  have z9 : (b == 9) = false := by rw [beq_eq_false_iff_ne]; omega
  have z10 : (b == 10) = false := by rw [beq_eq_false_iff_ne]; omega
  have z13 : (b == 13) = false := by rw [beq_eq_false_iff_ne]; omega
  have z32 : (b == 32) = false := by rw [beq_eq_false_iff_ne]; omega
  have z127 : (b == 127) = false := by rw [beq_eq_false_iff_ne]; omega
  have hc : Pl.cls b = 3 := by
    unfold Pl.cls
    repeat' split
    all_goals omega
  rw [hc]
  clear hc
  go_enter Tryd.func90, Tryd.ntmps90
  go_wp2
  go_ret
  exact ⟨rfl, rfl⟩
theorem classOf_any (b : Int) (w : World) (h0 : 0 ≤ b) (_h1 : b ≤ 255) :
    Calls Tryd.prog 90 #[.int .i64 b] w fun e w' => e = .returned (.int .i64 (Pl.cls b)) ∧ w = w' := by
  by_cases c0 : 192 ≤ b
  · exact classOf_0 b w h0 c0
  by_cases c1 : 128 ≤ b
  · exact classOf_1 b w h0 ⟨c1, by omega⟩
  by_cases c9 : b = 127
  · exact classOf_9 b w h0 c9
  by_cases c16 : 123 ≤ b
  · exact classOf_16 b w h0 ⟨c16, by omega⟩
  by_cases c12 : 97 ≤ b
  · exact classOf_12 b w h0 ⟨c12, by omega⟩
  by_cases c15 : 91 ≤ b
  · exact classOf_15 b w h0 ⟨c15, by omega⟩
  by_cases c11 : 65 ≤ b
  · exact classOf_11 b w h0 ⟨c11, by omega⟩
  by_cases c14 : 58 ≤ b
  · exact classOf_14 b w h0 ⟨c14, by omega⟩
  by_cases c10 : 48 ≤ b
  · exact classOf_10 b w h0 ⟨c10, by omega⟩
  by_cases c13 : 33 ≤ b
  · exact classOf_13 b w h0 ⟨c13, by omega⟩
  by_cases c5 : b = 32
  · exact classOf_5 b w h0 c5
  by_cases c8 : 14 ≤ b
  · exact classOf_8 b w h0 ⟨c8, by omega⟩
  by_cases c4 : b = 13
  · exact classOf_4 b w h0 c4
  by_cases c7 : 11 ≤ b
  · exact classOf_7 b w h0 ⟨c7, by omega⟩
  by_cases c3 : b = 10
  · exact classOf_3 b w h0 c3
  by_cases c2 : b = 9
  · exact classOf_2 b w h0 c2
  exact classOf_6 b w h0 (by omega)

set_option maxRecDepth 100000 in
set_option maxHeartbeats 2000000 in
theorem weightOf_1_0 (a b x y : Int) (w : World) (_r : 0 ≤ x ∧ x ≤ 6 ∧ 0 ≤ y ∧ y ≤ 6) (HX : Hid (∀ W : World, Calls Tryd.prog 90 #[.int .i64 a] W fun e w' => e = .returned (.int .i64 x) ∧ W = w')) (HY : Hid (∀ W : World, Calls Tryd.prog 90 #[.int .i64 b] W fun e w' => e = .returned (.int .i64 y) ∧ W = w')) (h : x < 4 ∧ y < 4) :
    Calls Tryd.prog 68 #[.int .i64 1, .int .i64 a, .int .i64 b] w fun x' w' => x' = .returned (.int .i64 (Pl.wgt 1 a b x y)) ∧ w = w' := by
  obtain ⟨k0, k1⟩ := h
  have z0 : (x == 6) = false := by rw [beq_eq_false_iff_ne]; omega
  go_enter Tryd.func68, Tryd.ntmps68
  go_wp2_with fail
  refine (HX.out _).mono ?_
  rintro r w1 ⟨rfl, hw⟩
  subst hw
  go_wp2_with fail
  refine (HY.out _).mono ?_
  rintro r w2 ⟨rfl, hw⟩
  subst hw
  clear HX HY
  go_wp2
  go_ret
  refine ⟨ret_int ?_, rfl⟩
  unfold Pl.wgt
  repeat' split
  all_goals first | rfl | omega

set_option maxRecDepth 100000 in
set_option maxHeartbeats 2000000 in
theorem weightOf_1_1 (a b x y : Int) (w : World) (_r : 0 ≤ x ∧ x ≤ 6 ∧ 0 ≤ y ∧ y ≤ 6) (HX : Hid (∀ W : World, Calls Tryd.prog 90 #[.int .i64 a] W fun e w' => e = .returned (.int .i64 x) ∧ W = w')) (HY : Hid (∀ W : World, Calls Tryd.prog 90 #[.int .i64 b] W fun e w' => e = .returned (.int .i64 y) ∧ W = w')) (h : x < 4 ∧ 4 ≤ y) :
    Calls Tryd.prog 68 #[.int .i64 1, .int .i64 a, .int .i64 b] w fun x' w' => x' = .returned (.int .i64 (Pl.wgt 1 a b x y)) ∧ w = w' := by
  obtain ⟨k0, k1⟩ := h
  have z0 : (x == 6) = false := by rw [beq_eq_false_iff_ne]; omega
  have ny : ¬ y < 4 := by omega
  go_enter Tryd.func68, Tryd.ntmps68
  go_wp2_with fail
  refine (HX.out _).mono ?_
  rintro r w1 ⟨rfl, hw⟩
  subst hw
  go_wp2_with fail
  refine (HY.out _).mono ?_
  rintro r w2 ⟨rfl, hw⟩
  subst hw
  clear HX HY
  go_wp2
  go_ret
  refine ⟨ret_int ?_, rfl⟩
  unfold Pl.wgt
  repeat' split
  all_goals first | rfl | omega

set_option maxRecDepth 100000 in
set_option maxHeartbeats 2000000 in
theorem weightOf_1_2 (a b x y : Int) (w : World) (_r : 0 ≤ x ∧ x ≤ 6 ∧ 0 ≤ y ∧ y ≤ 6) (HX : Hid (∀ W : World, Calls Tryd.prog 90 #[.int .i64 a] W fun e w' => e = .returned (.int .i64 x) ∧ W = w')) (HY : Hid (∀ W : World, Calls Tryd.prog 90 #[.int .i64 b] W fun e w' => e = .returned (.int .i64 y) ∧ W = w')) (h : x = 6 ∧ y = 5) :
    Calls Tryd.prog 68 #[.int .i64 1, .int .i64 a, .int .i64 b] w fun x' w' => x' = .returned (.int .i64 (Pl.wgt 1 a b x y)) ∧ w = w' := by
  obtain ⟨rfl, rfl⟩ := h
  go_enter Tryd.func68, Tryd.ntmps68
  go_wp2_with fail
  refine (HX.out _).mono ?_
  rintro r w1 ⟨rfl, hw⟩
  subst hw
  go_wp2_with fail
  refine (HY.out _).mono ?_
  rintro r w2 ⟨rfl, hw⟩
  subst hw
  clear HX HY
  go_wp2
  go_ret
  refine ⟨ret_int ?_, rfl⟩
  unfold Pl.wgt
  repeat' split
  all_goals first | rfl | omega

set_option maxRecDepth 100000 in
set_option maxHeartbeats 2000000 in
theorem weightOf_1_3 (a b x y : Int) (w : World) (_r : 0 ≤ x ∧ x ≤ 6 ∧ 0 ≤ y ∧ y ≤ 6) (HX : Hid (∀ W : World, Calls Tryd.prog 90 #[.int .i64 a] W fun e w' => e = .returned (.int .i64 x) ∧ W = w')) (HY : Hid (∀ W : World, Calls Tryd.prog 90 #[.int .i64 b] W fun e w' => e = .returned (.int .i64 y) ∧ W = w')) (h : x = 6 ∧ y ≠ 5) :
    Calls Tryd.prog 68 #[.int .i64 1, .int .i64 a, .int .i64 b] w fun x' w' => x' = .returned (.int .i64 (Pl.wgt 1 a b x y)) ∧ w = w' := by
  obtain ⟨rfl, k0⟩ := h
  have z0 : (y == 5) = false := by rw [beq_eq_false_iff_ne]; omega
  go_enter Tryd.func68, Tryd.ntmps68
  go_wp2_with fail
  refine (HX.out _).mono ?_
  rintro r w1 ⟨rfl, hw⟩
  subst hw
  go_wp2_with fail
  refine (HY.out _).mono ?_
  rintro r w2 ⟨rfl, hw⟩
  subst hw
  clear HX HY
  go_wp2
  go_ret
  refine ⟨ret_int ?_, rfl⟩
  unfold Pl.wgt
  repeat' split
  all_goals first | rfl | omega

set_option maxRecDepth 100000 in
set_option maxHeartbeats 2000000 in
theorem weightOf_1_4 (a b x y : Int) (w : World) (_r : 0 ≤ x ∧ x ≤ 6 ∧ 0 ≤ y ∧ y ≤ 6) (HX : Hid (∀ W : World, Calls Tryd.prog 90 #[.int .i64 a] W fun e w' => e = .returned (.int .i64 x) ∧ W = w')) (HY : Hid (∀ W : World, Calls Tryd.prog 90 #[.int .i64 b] W fun e w' => e = .returned (.int .i64 y) ∧ W = w')) (h : 4 ≤ x ∧ x ≠ 6) :
    Calls Tryd.prog 68 #[.int .i64 1, .int .i64 a, .int .i64 b] w fun x' w' => x' = .returned (.int .i64 (Pl.wgt 1 a b x y)) ∧ w = w' := by
  obtain ⟨k0, k1⟩ := h
  have z0 : (x == 6) = false := by rw [beq_eq_false_iff_ne]; omega
  have nx : ¬ x < 4 := by omega
  go_enter Tryd.func68, Tryd.ntmps68
  go_wp2_with fail
  refine (HX.out _).mono ?_
  rintro r w1 ⟨rfl, hw⟩
  subst hw
  go_wp2_with fail
  refine (HY.out _).mono ?_
  rintro r w2 ⟨rfl, hw⟩
  subst hw
  clear HX HY
  go_wp2
  go_ret
  refine ⟨ret_int ?_, rfl⟩
  unfold Pl.wgt
  repeat' split
  all_goals first | rfl | omega

set_option maxRecDepth 100000 in
set_option maxHeartbeats 2000000 in
theorem weightOf_2_0 (a b x y : Int) (w : World) (_r : 0 ≤ x ∧ x ≤ 6 ∧ 0 ≤ y ∧ y ≤ 6) (HX : Hid (∀ W : World, Calls Tryd.prog 90 #[.int .i64 a] W fun e w' => e = .returned (.int .i64 x) ∧ W = w')) (HY : Hid (∀ W : World, Calls Tryd.prog 90 #[.int .i64 b] W fun e w' => e = .returned (.int .i64 y) ∧ W = w')) (h : a = 27 ∧ x < 4 ∧ y < 4) :
    Calls Tryd.prog 68 #[.int .i64 2, .int .i64 a, .int .i64 b] w fun x' w' => x' = .returned (.int .i64 (Pl.wgt 2 a b x y)) ∧ w = w' := by
  obtain ⟨rfl, k0, k1⟩ := h
  go_enter Tryd.func68, Tryd.ntmps68
  go_wp2_with fail
  refine (HX.out _).mono ?_
  rintro r w1 ⟨rfl, hw⟩
  subst hw
  go_wp2_with fail
  refine (HY.out _).mono ?_
  rintro r w2 ⟨rfl, hw⟩
  subst hw
  clear HX HY
  go_wp2
  go_ret
  refine ⟨ret_int ?_, rfl⟩
  unfold Pl.wgt
  repeat' split
  all_goals first | rfl | omega

set_option maxRecDepth 100000 in
set_option maxHeartbeats 2000000 in
theorem weightOf_2_1 (a b x y : Int) (w : World) (_r : 0 ≤ x ∧ x ≤ 6 ∧ 0 ≤ y ∧ y ≤ 6) (HX : Hid (∀ W : World, Calls Tryd.prog 90 #[.int .i64 a] W fun e w' => e = .returned (.int .i64 x) ∧ W = w')) (HY : Hid (∀ W : World, Calls Tryd.prog 90 #[.int .i64 b] W fun e w' => e = .returned (.int .i64 y) ∧ W = w')) (h : a = 27 ∧ x < 4 ∧ 4 ≤ y) :
    Calls Tryd.prog 68 #[.int .i64 2, .int .i64 a, .int .i64 b] w fun x' w' => x' = .returned (.int .i64 (Pl.wgt 2 a b x y)) ∧ w = w' := by
  obtain ⟨rfl, k0, k1⟩ := h
  have ny : ¬ y < 4 := by omega
  go_enter Tryd.func68, Tryd.ntmps68
  go_wp2_with fail
  refine (HX.out _).mono ?_
  rintro r w1 ⟨rfl, hw⟩
  subst hw
  go_wp2_with fail
  refine (HY.out _).mono ?_
  rintro r w2 ⟨rfl, hw⟩
  subst hw
  clear HX HY
  go_wp2
  go_ret
  refine ⟨ret_int ?_, rfl⟩
  unfold Pl.wgt
  repeat' split
  all_goals first | rfl | omega

set_option maxRecDepth 100000 in
set_option maxHeartbeats 2000000 in
theorem weightOf_2_2 (a b x y : Int) (w : World) (_r : 0 ≤ x ∧ x ≤ 6 ∧ 0 ≤ y ∧ y ≤ 6) (HX : Hid (∀ W : World, Calls Tryd.prog 90 #[.int .i64 a] W fun e w' => e = .returned (.int .i64 x) ∧ W = w')) (HY : Hid (∀ W : World, Calls Tryd.prog 90 #[.int .i64 b] W fun e w' => e = .returned (.int .i64 y) ∧ W = w')) (h : a = 27 ∧ 4 ≤ x) :
    Calls Tryd.prog 68 #[.int .i64 2, .int .i64 a, .int .i64 b] w fun x' w' => x' = .returned (.int .i64 (Pl.wgt 2 a b x y)) ∧ w = w' := by
  obtain ⟨rfl, k0⟩ := h
  have nx : ¬ x < 4 := by omega
  go_enter Tryd.func68, Tryd.ntmps68
  go_wp2_with fail
  refine (HX.out _).mono ?_
  rintro r w1 ⟨rfl, hw⟩
  subst hw
  go_wp2_with fail
  refine (HY.out _).mono ?_
  rintro r w2 ⟨rfl, hw⟩
  subst hw
  clear HX HY
  go_wp2
  go_ret
  refine ⟨ret_int ?_, rfl⟩
  unfold Pl.wgt
  repeat' split
  all_goals first | rfl | omega

set_option maxRecDepth 100000 in
set_option maxHeartbeats 2000000 in
theorem weightOf_2_3 (a b x y : Int) (w : World) (_r : 0 ≤ x ∧ x ≤ 6 ∧ 0 ≤ y ∧ y ≤ 6) (HX : Hid (∀ W : World, Calls Tryd.prog 90 #[.int .i64 a] W fun e w' => e = .returned (.int .i64 x) ∧ W = w')) (HY : Hid (∀ W : World, Calls Tryd.prog 90 #[.int .i64 b] W fun e w' => e = .returned (.int .i64 y) ∧ W = w')) (h : a ≠ 27 ∧ b = 27 ∧ x < 4 ∧ y < 4) :
    Calls Tryd.prog 68 #[.int .i64 2, .int .i64 a, .int .i64 b] w fun x' w' => x' = .returned (.int .i64 (Pl.wgt 2 a b x y)) ∧ w = w' := by
  obtain ⟨k0, rfl, k1, k2⟩ := h
  have z0 : (a == 27) = false := by rw [beq_eq_false_iff_ne]; omega
  go_enter Tryd.func68, Tryd.ntmps68
  go_wp2_with fail
  refine (HX.out _).mono ?_
  rintro r w1 ⟨rfl, hw⟩
  subst hw
  go_wp2_with fail
  refine (HY.out _).mono ?_
  rintro r w2 ⟨rfl, hw⟩
  subst hw
  clear HX HY
  go_wp2
  go_ret
  refine ⟨ret_int ?_, rfl⟩
  unfold Pl.wgt
  repeat' split
  all_goals first | rfl | omega

set_option maxRecDepth 100000 in
set_option maxHeartbeats 2000000 in
theorem weightOf_2_4 (a b x y : Int) (w : World) (_r : 0 ≤ x ∧ x ≤ 6 ∧ 0 ≤ y ∧ y ≤ 6) (HX : Hid (∀ W : World, Calls Tryd.prog 90 #[.int .i64 a] W fun e w' => e = .returned (.int .i64 x) ∧ W = w')) (HY : Hid (∀ W : World, Calls Tryd.prog 90 #[.int .i64 b] W fun e w' => e = .returned (.int .i64 y) ∧ W = w')) (h : a ≠ 27 ∧ b = 27 ∧ x < 4 ∧ 4 ≤ y) :
    Calls Tryd.prog 68 #[.int .i64 2, .int .i64 a, .int .i64 b] w fun x' w' => x' = .returned (.int .i64 (Pl.wgt 2 a b x y)) ∧ w = w' := by
  obtain ⟨k0, rfl, k1, k2⟩ := h
  have z0 : (a == 27) = false := by rw [beq_eq_false_iff_ne]; omega
  have ny : ¬ y < 4 := by omega
  go_enter Tryd.func68, Tryd.ntmps68
  go_wp2_with fail
  refine (HX.out _).mono ?_
  rintro r w1 ⟨rfl, hw⟩
  subst hw
  go_wp2_with fail
  refine (HY.out _).mono ?_
  rintro r w2 ⟨rfl, hw⟩
  subst hw
  clear HX HY
  go_wp2
  go_ret
  refine ⟨ret_int ?_, rfl⟩
  unfold Pl.wgt
  repeat' split
  all_goals first | rfl | omega

set_option maxRecDepth 100000 in
set_option maxHeartbeats 2000000 in
theorem weightOf_2_5 (a b x y : Int) (w : World) (_r : 0 ≤ x ∧ x ≤ 6 ∧ 0 ≤ y ∧ y ≤ 6) (HX : Hid (∀ W : World, Calls Tryd.prog 90 #[.int .i64 a] W fun e w' => e = .returned (.int .i64 x) ∧ W = w')) (HY : Hid (∀ W : World, Calls Tryd.prog 90 #[.int .i64 b] W fun e w' => e = .returned (.int .i64 y) ∧ W = w')) (h : a ≠ 27 ∧ b = 27 ∧ 4 ≤ x) :
    Calls Tryd.prog 68 #[.int .i64 2, .int .i64 a, .int .i64 b] w fun x' w' => x' = .returned (.int .i64 (Pl.wgt 2 a b x y)) ∧ w = w' := by
  obtain ⟨k0, rfl, k1⟩ := h
  have z0 : (a == 27) = false := by rw [beq_eq_false_iff_ne]; omega
  have nx : ¬ x < 4 := by omega
  go_enter Tryd.func68, Tryd.ntmps68
  go_wp2_with fail
  refine (HX.out _).mono ?_
  rintro r w1 ⟨rfl, hw⟩
  subst hw
  go_wp2_with fail
  refine (HY.out _).mono ?_
  rintro r w2 ⟨rfl, hw⟩
  subst hw
  clear HX HY
  go_wp2
  go_ret
  refine ⟨ret_int ?_, rfl⟩
  unfold Pl.wgt
  repeat' split
  all_goals first | rfl | omega

set_option maxRecDepth 100000 in
set_option maxHeartbeats 2000000 in
theorem weightOf_2_6 (a b x y : Int) (w : World) (_r : 0 ≤ x ∧ x ≤ 6 ∧ 0 ≤ y ∧ y ≤ 6) (HX : Hid (∀ W : World, Calls Tryd.prog 90 #[.int .i64 a] W fun e w' => e = .returned (.int .i64 x) ∧ W = w')) (HY : Hid (∀ W : World, Calls Tryd.prog 90 #[.int .i64 b] W fun e w' => e = .returned (.int .i64 y) ∧ W = w')) (h : a ≠ 27 ∧ b ≠ 27 ∧ x < 4 ∧ y < 4) :
    Calls Tryd.prog 68 #[.int .i64 2, .int .i64 a, .int .i64 b] w fun x' w' => x' = .returned (.int .i64 (Pl.wgt 2 a b x y)) ∧ w = w' := by
  obtain ⟨k0, k1, k2, k3⟩ := h
  have z0 : (a == 27) = false := by rw [beq_eq_false_iff_ne]; omega
  have z1 : (b == 27) = false := by rw [beq_eq_false_iff_ne]; omega
  go_enter Tryd.func68, Tryd.ntmps68
  go_wp2_with fail
  refine (HX.out _).mono ?_
  rintro r w1 ⟨rfl, hw⟩
  subst hw
  go_wp2_with fail
  refine (HY.out _).mono ?_
  rintro r w2 ⟨rfl, hw⟩
  subst hw
  clear HX HY
  go_wp2
  go_ret
  refine ⟨ret_int ?_, rfl⟩
  unfold Pl.wgt
  repeat' split
  all_goals first | rfl | omega

set_option maxRecDepth 100000 in
set_option maxHeartbeats 2000000 in
theorem weightOf_2_7 (a b x y : Int) (w : World) (_r : 0 ≤ x ∧ x ≤ 6 ∧ 0 ≤ y ∧ y ≤ 6) (HX : Hid (∀ W : World, Calls Tryd.prog 90 #[.int .i64 a] W fun e w' => e = .returned (.int .i64 x) ∧ W = w')) (HY : Hid (∀ W : World, Calls Tryd.prog 90 #[.int .i64 b] W fun e w' => e = .returned (.int .i64 y) ∧ W = w')) (h : a ≠ 27 ∧ b ≠ 27 ∧ x < 4 ∧ 4 ≤ y) :
    Calls Tryd.prog 68 #[.int .i64 2, .int .i64 a, .int .i64 b] w fun x' w' => x' = .returned (.int .i64 (Pl.wgt 2 a b x y)) ∧ w = w' := by
  obtain ⟨k0, k1, k2, k3⟩ := h
  have z0 : (a == 27) = false := by rw [beq_eq_false_iff_ne]; omega
  have z1 : (b == 27) = false := by rw [beq_eq_false_iff_ne]; omega
  have ny : ¬ y < 4 := by omega
  go_enter Tryd.func68, Tryd.ntmps68
  go_wp2_with fail
  refine (HX.out _).mono ?_
  rintro r w1 ⟨rfl, hw⟩
  subst hw
  go_wp2_with fail
  refine (HY.out _).mono ?_
  rintro r w2 ⟨rfl, hw⟩
  subst hw
  clear HX HY
  go_wp2
  go_ret
  refine ⟨ret_int ?_, rfl⟩
  unfold Pl.wgt
  repeat' split
  all_goals first | rfl | omega

set_option maxRecDepth 100000 in
set_option maxHeartbeats 2000000 in
theorem weightOf_2_8 (a b x y : Int) (w : World) (_r : 0 ≤ x ∧ x ≤ 6 ∧ 0 ≤ y ∧ y ≤ 6) (HX : Hid (∀ W : World, Calls Tryd.prog 90 #[.int .i64 a] W fun e w' => e = .returned (.int .i64 x) ∧ W = w')) (HY : Hid (∀ W : World, Calls Tryd.prog 90 #[.int .i64 b] W fun e w' => e = .returned (.int .i64 y) ∧ W = w')) (h : a ≠ 27 ∧ b ≠ 27 ∧ 4 ≤ x) :
    Calls Tryd.prog 68 #[.int .i64 2, .int .i64 a, .int .i64 b] w fun x' w' => x' = .returned (.int .i64 (Pl.wgt 2 a b x y)) ∧ w = w' := by
  obtain ⟨k0, k1, k2⟩ := h
  have z0 : (a == 27) = false := by rw [beq_eq_false_iff_ne]; omega
  have z1 : (b == 27) = false := by rw [beq_eq_false_iff_ne]; omega
  have nx : ¬ x < 4 := by omega
  go_enter Tryd.func68, Tryd.ntmps68
  go_wp2_with fail
  refine (HX.out _).mono ?_
  rintro r w1 ⟨rfl, hw⟩
  subst hw
  go_wp2_with fail
  refine (HY.out _).mono ?_
  rintro r w2 ⟨rfl, hw⟩
  subst hw
  clear HX HY
  go_wp2
  go_ret
  refine ⟨ret_int ?_, rfl⟩
  unfold Pl.wgt
  repeat' split
  all_goals first | rfl | omega

set_option maxRecDepth 100000 in
set_option maxHeartbeats 2000000 in
theorem weightOf_3_0 (a b x y : Int) (w : World) (_r : 0 ≤ x ∧ x ≤ 6 ∧ 0 ≤ y ∧ y ≤ 6) (HX : Hid (∀ W : World, Calls Tryd.prog 90 #[.int .i64 a] W fun e w' => e = .returned (.int .i64 x) ∧ W = w')) (HY : Hid (∀ W : World, Calls Tryd.prog 90 #[.int .i64 b] W fun e w' => e = .returned (.int .i64 y) ∧ W = w')) (h : x < 4 ∧ y < 4) :
    Calls Tryd.prog 68 #[.int .i64 3, .int .i64 a, .int .i64 b] w fun x' w' => x' = .returned (.int .i64 (Pl.wgt 3 a b x y)) ∧ w = w' := by
  obtain ⟨k0, k1⟩ := h
  have z0 : (x == 5) = false := by rw [beq_eq_false_iff_ne]; omega
  go_enter Tryd.func68, Tryd.ntmps68
  go_wp2_with fail
  refine (HX.out _).mono ?_
  rintro r w1 ⟨rfl, hw⟩
  subst hw
  go_wp2_with fail
  refine (HY.out _).mono ?_
  rintro r w2 ⟨rfl, hw⟩
  subst hw
  clear HX HY
  go_wp2
  go_ret
  refine ⟨ret_int ?_, rfl⟩
  unfold Pl.wgt
  repeat' split
  all_goals first | rfl | omega

set_option maxRecDepth 100000 in
set_option maxHeartbeats 2000000 in
theorem weightOf_3_1 (a b x y : Int) (w : World) (_r : 0 ≤ x ∧ x ≤ 6 ∧ 0 ≤ y ∧ y ≤ 6) (HX : Hid (∀ W : World, Calls Tryd.prog 90 #[.int .i64 a] W fun e w' => e = .returned (.int .i64 x) ∧ W = w')) (HY : Hid (∀ W : World, Calls Tryd.prog 90 #[.int .i64 b] W fun e w' => e = .returned (.int .i64 y) ∧ W = w')) (h : x < 4 ∧ 4 ≤ y) :
    Calls Tryd.prog 68 #[.int .i64 3, .int .i64 a, .int .i64 b] w fun x' w' => x' = .returned (.int .i64 (Pl.wgt 3 a b x y)) ∧ w = w' := by
  obtain ⟨k0, k1⟩ := h
  have z0 : (x == 5) = false := by rw [beq_eq_false_iff_ne]; omega
  have ny : ¬ y < 4 := by omega
  go_enter Tryd.func68, Tryd.ntmps68
  go_wp2_with fail
  refine (HX.out _).mono ?_
  rintro r w1 ⟨rfl, hw⟩
  subst hw
  go_wp2_with fail
  refine (HY.out _).mono ?_
  rintro r w2 ⟨rfl, hw⟩
  subst hw
  clear HX HY
  go_wp2
  go_ret
  refine ⟨ret_int ?_, rfl⟩
  unfold Pl.wgt
  repeat' split
  all_goals first | rfl | omega

set_option maxRecDepth 100000 in
set_option maxHeartbeats 2000000 in
theorem weightOf_3_2 (a b x y : Int) (w : World) (_r : 0 ≤ x ∧ x ≤ 6 ∧ 0 ≤ y ∧ y ≤ 6) (HX : Hid (∀ W : World, Calls Tryd.prog 90 #[.int .i64 a] W fun e w' => e = .returned (.int .i64 x) ∧ W = w')) (HY : Hid (∀ W : World, Calls Tryd.prog 90 #[.int .i64 b] W fun e w' => e = .returned (.int .i64 y) ∧ W = w')) (h : x = 5 ∧ y ≠ 4) :
    Calls Tryd.prog 68 #[.int .i64 3, .int .i64 a, .int .i64 b] w fun x' w' => x' = .returned (.int .i64 (Pl.wgt 3 a b x y)) ∧ w = w' := by
  obtain ⟨rfl, k0⟩ := h
  have z0 : (y != 4) = true := by rw [bne_iff_ne]; omega
  go_enter Tryd.func68, Tryd.ntmps68
  go_wp2_with fail
  refine (HX.out _).mono ?_
  rintro r w1 ⟨rfl, hw⟩
  subst hw
  go_wp2_with fail
  refine (HY.out _).mono ?_
  rintro r w2 ⟨rfl, hw⟩
  subst hw
  clear HX HY
  go_wp2
  go_ret
  refine ⟨ret_int ?_, rfl⟩
  unfold Pl.wgt
  repeat' split
  all_goals first | rfl | omega

set_option maxRecDepth 100000 in
set_option maxHeartbeats 2000000 in
theorem weightOf_3_3 (a b x y : Int) (w : World) (_r : 0 ≤ x ∧ x ≤ 6 ∧ 0 ≤ y ∧ y ≤ 6) (HX : Hid (∀ W : World, Calls Tryd.prog 90 #[.int .i64 a] W fun e w' => e = .returned (.int .i64 x) ∧ W = w')) (HY : Hid (∀ W : World, Calls Tryd.prog 90 #[.int .i64 b] W fun e w' => e = .returned (.int .i64 y) ∧ W = w')) (h : x = 5 ∧ y = 4) :
    Calls Tryd.prog 68 #[.int .i64 3, .int .i64 a, .int .i64 b] w fun x' w' => x' = .returned (.int .i64 (Pl.wgt 3 a b x y)) ∧ w = w' := by
  obtain ⟨rfl, rfl⟩ := h
  go_enter Tryd.func68, Tryd.ntmps68
  go_wp2_with fail
  refine (HX.out _).mono ?_
  rintro r w1 ⟨rfl, hw⟩
  subst hw
  go_wp2_with fail
  refine (HY.out _).mono ?_
  rintro r w2 ⟨rfl, hw⟩
  subst hw
  clear HX HY
  go_wp2
  go_ret
  refine ⟨ret_int ?_, rfl⟩
  unfold Pl.wgt
  repeat' split
  all_goals first | rfl | omega

set_option maxRecDepth 100000 in
set_option maxHeartbeats 2000000 in
theorem weightOf_3_4 (a b x y : Int) (w : World) (_r : 0 ≤ x ∧ x ≤ 6 ∧ 0 ≤ y ∧ y ≤ 6) (HX : Hid (∀ W : World, Calls Tryd.prog 90 #[.int .i64 a] W fun e w' => e = .returned (.int .i64 x) ∧ W = w')) (HY : Hid (∀ W : World, Calls Tryd.prog 90 #[.int .i64 b] W fun e w' => e = .returned (.int .i64 y) ∧ W = w')) (h : 4 ≤ x ∧ x ≠ 5) :
    Calls Tryd.prog 68 #[.int .i64 3, .int .i64 a, .int .i64 b] w fun x' w' => x' = .returned (.int .i64 (Pl.wgt 3 a b x y)) ∧ w = w' := by
  obtain ⟨k0, k1⟩ := h
  have z0 : (x == 5) = false := by rw [beq_eq_false_iff_ne]; omega
  have nx : ¬ x < 4 := by omega
  go_enter Tryd.func68, Tryd.ntmps68
  go_wp2_with fail
  refine (HX.out _).mono ?_
  rintro r w1 ⟨rfl, hw⟩
  subst hw
  go_wp2_with fail
  refine (HY.out _).mono ?_
  rintro r w2 ⟨rfl, hw⟩
  subst hw
  clear HX HY
  go_wp2
  go_ret
  refine ⟨ret_int ?_, rfl⟩
  unfold Pl.wgt
  repeat' split
  all_goals first | rfl | omega

set_option maxRecDepth 100000 in
set_option maxHeartbeats 2000000 in
theorem weightOf_4_0 (a b x y : Int) (w : World) (_r : 0 ≤ x ∧ x ≤ 6 ∧ 0 ≤ y ∧ y ≤ 6) (HX : Hid (∀ W : World, Calls Tryd.prog 90 #[.int .i64 a] W fun e w' => e = .returned (.int .i64 x) ∧ W = w')) (HY : Hid (∀ W : World, Calls Tryd.prog 90 #[.int .i64 b] W fun e w' => e = .returned (.int .i64 y) ∧ W = w')) (h : x = 0 ∧ y = 6) :
    Calls Tryd.prog 68 #[.int .i64 4, .int .i64 a, .int .i64 b] w fun x' w' => x' = .returned (.int .i64 (Pl.wgt 4 a b x y)) ∧ w = w' := by
  obtain ⟨rfl, rfl⟩ := h
  go_enter Tryd.func68, Tryd.ntmps68
  go_wp2_with fail
  refine (HX.out _).mono ?_
  rintro r w1 ⟨rfl, hw⟩
  subst hw
  go_wp2_with fail
  refine (HY.out _).mono ?_
  rintro r w2 ⟨rfl, hw⟩
  subst hw
  clear HX HY
  go_wp2
  go_ret
  refine ⟨ret_int ?_, rfl⟩
  unfold Pl.wgt
  repeat' split
  all_goals first | rfl | omega

set_option maxRecDepth 100000 in
set_option maxHeartbeats 2000000 in
theorem weightOf_4_1 (a b x y : Int) (w : World) (_r : 0 ≤ x ∧ x ≤ 6 ∧ 0 ≤ y ∧ y ≤ 6) (HX : Hid (∀ W : World, Calls Tryd.prog 90 #[.int .i64 a] W fun e w' => e = .returned (.int .i64 x) ∧ W = w')) (HY : Hid (∀ W : World, Calls Tryd.prog 90 #[.int .i64 b] W fun e w' => e = .returned (.int .i64 y) ∧ W = w')) (h : x = 0 ∧ y < 4) :
    Calls Tryd.prog 68 #[.int .i64 4, .int .i64 a, .int .i64 b] w fun x' w' => x' = .returned (.int .i64 (Pl.wgt 4 a b x y)) ∧ w = w' := by
  obtain ⟨rfl, k0⟩ := h
  have z0 : (y == 6) = false := by rw [beq_eq_false_iff_ne]; omega
  go_enter Tryd.func68, Tryd.ntmps68
  go_wp2_with fail
  refine (HX.out _).mono ?_
  rintro r w1 ⟨rfl, hw⟩
  subst hw
  go_wp2_with fail
  refine (HY.out _).mono ?_
  rintro r w2 ⟨rfl, hw⟩
  subst hw
  clear HX HY
  go_wp2
  go_ret
  refine ⟨ret_int ?_, rfl⟩
  unfold Pl.wgt
  repeat' split
  all_goals first | rfl | omega

set_option maxRecDepth 100000 in
set_option maxHeartbeats 2000000 in
theorem weightOf_4_2 (a b x y : Int) (w : World) (_r : 0 ≤ x ∧ x ≤ 6 ∧ 0 ≤ y ∧ y ≤ 6) (HX : Hid (∀ W : World, Calls Tryd.prog 90 #[.int .i64 a] W fun e w' => e = .returned (.int .i64 x) ∧ W = w')) (HY : Hid (∀ W : World, Calls Tryd.prog 90 #[.int .i64 b] W fun e w' => e = .returned (.int .i64 y) ∧ W = w')) (h : x = 0 ∧ 4 ≤ y ∧ y ≠ 6) :
    Calls Tryd.prog 68 #[.int .i64 4, .int .i64 a, .int .i64 b] w fun x' w' => x' = .returned (.int .i64 (Pl.wgt 4 a b x y)) ∧ w = w' := by
  obtain ⟨rfl, k0, k1⟩ := h
  have z0 : (y == 6) = false := by rw [beq_eq_false_iff_ne]; omega
  have ny : ¬ y < 4 := by omega
  go_enter Tryd.func68, Tryd.ntmps68
  go_wp2_with fail
  refine (HX.out _).mono ?_
  rintro r w1 ⟨rfl, hw⟩
  subst hw
  go_wp2_with fail
  refine (HY.out _).mono ?_
  rintro r w2 ⟨rfl, hw⟩
  subst hw
  clear HX HY
  go_wp2
  go_ret
  refine ⟨ret_int ?_, rfl⟩
  unfold Pl.wgt
  repeat' split
  all_goals first | rfl | omega

set_option maxRecDepth 100000 in
set_option maxHeartbeats 2000000 in
theorem weightOf_4_3 (a b x y : Int) (w : World) (_r : 0 ≤ x ∧ x ≤ 6 ∧ 0 ≤ y ∧ y ≤ 6) (HX : Hid (∀ W : World, Calls Tryd.prog 90 #[.int .i64 a] W fun e w' => e = .returned (.int .i64 x) ∧ W = w')) (HY : Hid (∀ W : World, Calls Tryd.prog 90 #[.int .i64 b] W fun e w' => e = .returned (.int .i64 y) ∧ W = w')) (h : 0 < x ∧ x < 4 ∧ y < 4) :
    Calls Tryd.prog 68 #[.int .i64 4, .int .i64 a, .int .i64 b] w fun x' w' => x' = .returned (.int .i64 (Pl.wgt 4 a b x y)) ∧ w = w' := by
  obtain ⟨k0, k1, k2⟩ := h
  have z0 : (x == 0) = false := by rw [beq_eq_false_iff_ne]; omega
  have z1 : (x == 6) = false := by rw [beq_eq_false_iff_ne]; omega
  go_enter Tryd.func68, Tryd.ntmps68
  go_wp2_with fail
  refine (HX.out _).mono ?_
  rintro r w1 ⟨rfl, hw⟩
  subst hw
  go_wp2_with fail
  refine (HY.out _).mono ?_
  rintro r w2 ⟨rfl, hw⟩
  subst hw
  clear HX HY
  go_wp2
  go_ret
  refine ⟨ret_int ?_, rfl⟩
  unfold Pl.wgt
  repeat' split
  all_goals first | rfl | omega

set_option maxRecDepth 100000 in
set_option maxHeartbeats 2000000 in
theorem weightOf_4_4 (a b x y : Int) (w : World) (_r : 0 ≤ x ∧ x ≤ 6 ∧ 0 ≤ y ∧ y ≤ 6) (HX : Hid (∀ W : World, Calls Tryd.prog 90 #[.int .i64 a] W fun e w' => e = .returned (.int .i64 x) ∧ W = w')) (HY : Hid (∀ W : World, Calls Tryd.prog 90 #[.int .i64 b] W fun e w' => e = .returned (.int .i64 y) ∧ W = w')) (h : 0 < x ∧ x < 4 ∧ 4 ≤ y) :
    Calls Tryd.prog 68 #[.int .i64 4, .int .i64 a, .int .i64 b] w fun x' w' => x' = .returned (.int .i64 (Pl.wgt 4 a b x y)) ∧ w = w' := by
  obtain ⟨k0, k1, k2⟩ := h
  have z0 : (x == 0) = false := by rw [beq_eq_false_iff_ne]; omega
  have z1 : (x == 6) = false := by rw [beq_eq_false_iff_ne]; omega
  have ny : ¬ y < 4 := by omega
  go_enter Tryd.func68, Tryd.ntmps68
  go_wp2_with fail
  refine (HX.out _).mono ?_
  rintro r w1 ⟨rfl, hw⟩
  subst hw
  go_wp2_with fail
  refine (HY.out _).mono ?_
  rintro r w2 ⟨rfl, hw⟩
  subst hw
  clear HX HY
  go_wp2
  go_ret
  refine ⟨ret_int ?_, rfl⟩
  unfold Pl.wgt
  repeat' split
  all_goals first | rfl | omega

set_option maxRecDepth 100000 in
set_option maxHeartbeats 2000000 in
theorem weightOf_4_5 (a b x y : Int) (w : World) (_r : 0 ≤ x ∧ x ≤ 6 ∧ 0 ≤ y ∧ y ≤ 6) (HX : Hid (∀ W : World, Calls Tryd.prog 90 #[.int .i64 a] W fun e w' => e = .returned (.int .i64 x) ∧ W = w')) (HY : Hid (∀ W : World, Calls Tryd.prog 90 #[.int .i64 b] W fun e w' => e = .returned (.int .i64 y) ∧ W = w')) (h : x = 6 ∧ y = 0) :
    Calls Tryd.prog 68 #[.int .i64 4, .int .i64 a, .int .i64 b] w fun x' w' => x' = .returned (.int .i64 (Pl.wgt 4 a b x y)) ∧ w = w' := by
  obtain ⟨rfl, rfl⟩ := h
  go_enter Tryd.func68, Tryd.ntmps68
  go_wp2_with fail
  refine (HX.out _).mono ?_
  rintro r w1 ⟨rfl, hw⟩
  subst hw
  go_wp2_with fail
  refine (HY.out _).mono ?_
  rintro r w2 ⟨rfl, hw⟩
  subst hw
  clear HX HY
  go_wp2
  go_ret
  refine ⟨ret_int ?_, rfl⟩
  unfold Pl.wgt
  repeat' split
  all_goals first | rfl | omega

set_option maxRecDepth 100000 in
set_option maxHeartbeats 2000000 in
theorem weightOf_4_6 (a b x y : Int) (w : World) (_r : 0 ≤ x ∧ x ≤ 6 ∧ 0 ≤ y ∧ y ≤ 6) (HX : Hid (∀ W : World, Calls Tryd.prog 90 #[.int .i64 a] W fun e w' => e = .returned (.int .i64 x) ∧ W = w')) (HY : Hid (∀ W : World, Calls Tryd.prog 90 #[.int .i64 b] W fun e w' => e = .returned (.int .i64 y) ∧ W = w')) (h : x = 6 ∧ y ≠ 0) :
    Calls Tryd.prog 68 #[.int .i64 4, .int .i64 a, .int .i64 b] w fun x' w' => x' = .returned (.int .i64 (Pl.wgt 4 a b x y)) ∧ w = w' := by
  obtain ⟨rfl, k0⟩ := h
  have z0 : (y == 0) = false := by rw [beq_eq_false_iff_ne]; omega
  go_enter Tryd.func68, Tryd.ntmps68
  go_wp2_with fail
  refine (HX.out _).mono ?_
  rintro r w1 ⟨rfl, hw⟩
  subst hw
  go_wp2_with fail
  refine (HY.out _).mono ?_
  rintro r w2 ⟨rfl, hw⟩
  subst hw
  clear HX HY
  go_wp2
  go_ret
  refine ⟨ret_int ?_, rfl⟩
  unfold Pl.wgt
  repeat' split
  all_goals first | rfl | omega

set_option maxRecDepth 100000 in
set_option maxHeartbeats 2000000 in
theorem weightOf_4_7 (a b x y : Int) (w : World) (_r : 0 ≤ x ∧ x ≤ 6 ∧ 0 ≤ y ∧ y ≤ 6) (HX : Hid (∀ W : World, Calls Tryd.prog 90 #[.int .i64 a] W fun e w' => e = .returned (.int .i64 x) ∧ W = w')) (HY : Hid (∀ W : World, Calls Tryd.prog 90 #[.int .i64 b] W fun e w' => e = .returned (.int .i64 y) ∧ W = w')) (h : 4 ≤ x ∧ x ≠ 6) :
    Calls Tryd.prog 68 #[.int .i64 4, .int .i64 a, .int .i64 b] w fun x' w' => x' = .returned (.int .i64 (Pl.wgt 4 a b x y)) ∧ w = w' := by
  obtain ⟨k0, k1⟩ := h
  have z0 : (x == 0) = false := by rw [beq_eq_false_iff_ne]; omega
  have z1 : (x == 6) = false := by rw [beq_eq_false_iff_ne]; omega
  have nx : ¬ x < 4 := by omega
  go_enter Tryd.func68, Tryd.ntmps68
  go_wp2_with fail
  refine (HX.out _).mono ?_
  rintro r w1 ⟨rfl, hw⟩
  subst hw
  go_wp2_with fail
  refine (HY.out _).mono ?_
  rintro r w2 ⟨rfl, hw⟩
  subst hw
  clear HX HY
  go_wp2
  go_ret
  refine ⟨ret_int ?_, rfl⟩
  unfold Pl.wgt
  repeat' split
  all_goals first | rfl | omega

set_option maxRecDepth 100000 in
set_option maxHeartbeats 2000000 in
theorem weightOf_5_0 (a b x y : Int) (w : World) (_r : 0 ≤ x ∧ x ≤ 6 ∧ 0 ≤ y ∧ y ≤ 6) (HX : Hid (∀ W : World, Calls Tryd.prog 90 #[.int .i64 a] W fun e w' => e = .returned (.int .i64 x) ∧ W = w')) (HY : Hid (∀ W : World, Calls Tryd.prog 90 #[.int .i64 b] W fun e w' => e = .returned (.int .i64 y) ∧ W = w')) (h : y = 4 ∧ x < 4) :
    Calls Tryd.prog 68 #[.int .i64 5, .int .i64 a, .int .i64 b] w fun x' w' => x' = .returned (.int .i64 (Pl.wgt 5 a b x y)) ∧ w = w' := by
  obtain ⟨rfl, k0⟩ := h
  go_enter Tryd.func68, Tryd.ntmps68
  go_wp2_with fail
  refine (HX.out _).mono ?_
  rintro r w1 ⟨rfl, hw⟩
  subst hw
  go_wp2_with fail
  refine (HY.out _).mono ?_
  rintro r w2 ⟨rfl, hw⟩
  subst hw
  clear HX HY
  go_wp2
  go_ret
  refine ⟨ret_int ?_, rfl⟩
  unfold Pl.wgt
  repeat' split
  all_goals first | rfl | omega

set_option maxRecDepth 100000 in
set_option maxHeartbeats 2000000 in
theorem weightOf_5_1 (a b x y : Int) (w : World) (_r : 0 ≤ x ∧ x ≤ 6 ∧ 0 ≤ y ∧ y ≤ 6) (HX : Hid (∀ W : World, Calls Tryd.prog 90 #[.int .i64 a] W fun e w' => e = .returned (.int .i64 x) ∧ W = w')) (HY : Hid (∀ W : World, Calls Tryd.prog 90 #[.int .i64 b] W fun e w' => e = .returned (.int .i64 y) ∧ W = w')) (h : y = 4 ∧ 4 ≤ x) :
    Calls Tryd.prog 68 #[.int .i64 5, .int .i64 a, .int .i64 b] w fun x' w' => x' = .returned (.int .i64 (Pl.wgt 5 a b x y)) ∧ w = w' := by
  obtain ⟨rfl, k0⟩ := h
  have nx : ¬ x < 4 := by omega
  go_enter Tryd.func68, Tryd.ntmps68
  go_wp2_with fail
  refine (HX.out _).mono ?_
  rintro r w1 ⟨rfl, hw⟩
  subst hw
  go_wp2_with fail
  refine (HY.out _).mono ?_
  rintro r w2 ⟨rfl, hw⟩
  subst hw
  clear HX HY
  go_wp2
  go_ret
  refine ⟨ret_int ?_, rfl⟩
  unfold Pl.wgt
  repeat' split
  all_goals first | rfl | omega

set_option maxRecDepth 100000 in
set_option maxHeartbeats 2000000 in
theorem weightOf_5_2 (a b x y : Int) (w : World) (_r : 0 ≤ x ∧ x ≤ 6 ∧ 0 ≤ y ∧ y ≤ 6) (HX : Hid (∀ W : World, Calls Tryd.prog 90 #[.int .i64 a] W fun e w' => e = .returned (.int .i64 x) ∧ W = w')) (HY : Hid (∀ W : World, Calls Tryd.prog 90 #[.int .i64 b] W fun e w' => e = .returned (.int .i64 y) ∧ W = w')) (h : x < 4 ∧ y < 4) :
    Calls Tryd.prog 68 #[.int .i64 5, .int .i64 a, .int .i64 b] w fun x' w' => x' = .returned (.int .i64 (Pl.wgt 5 a b x y)) ∧ w = w' := by
  obtain ⟨k0, k1⟩ := h
  have z0 : (y == 4) = false := by rw [beq_eq_false_iff_ne]; omega
  go_enter Tryd.func68, Tryd.ntmps68
  go_wp2_with fail
  refine (HX.out _).mono ?_
  rintro r w1 ⟨rfl, hw⟩
  subst hw
  go_wp2_with fail
  refine (HY.out _).mono ?_
  rintro r w2 ⟨rfl, hw⟩
  subst hw
  clear HX HY
  go_wp2
  go_ret
  refine ⟨ret_int ?_, rfl⟩
  unfold Pl.wgt
  repeat' split
  all_goals first | rfl | omega

set_option maxRecDepth 100000 in
set_option maxHeartbeats 2000000 in
theorem weightOf_5_3 (a b x y : Int) (w : World) (_r : 0 ≤ x ∧ x ≤ 6 ∧ 0 ≤ y ∧ y ≤ 6) (HX : Hid (∀ W : World, Calls Tryd.prog 90 #[.int .i64 a] W fun e w' => e = .returned (.int .i64 x) ∧ W = w')) (HY : Hid (∀ W : World, Calls Tryd.prog 90 #[.int .i64 b] W fun e w' => e = .returned (.int .i64 y) ∧ W = w')) (h : x < 4 ∧ 4 < y) :
    Calls Tryd.prog 68 #[.int .i64 5, .int .i64 a, .int .i64 b] w fun x' w' => x' = .returned (.int .i64 (Pl.wgt 5 a b x y)) ∧ w = w' := by
  obtain ⟨k0, k1⟩ := h
  have z0 : (y == 4) = false := by rw [beq_eq_false_iff_ne]; omega
  have ny : ¬ y < 4 := by omega
  go_enter Tryd.func68, Tryd.ntmps68
  go_wp2_with fail
  refine (HX.out _).mono ?_
  rintro r w1 ⟨rfl, hw⟩
  subst hw
  go_wp2_with fail
  refine (HY.out _).mono ?_
  rintro r w2 ⟨rfl, hw⟩
  subst hw
  clear HX HY
  go_wp2
  go_ret
  refine ⟨ret_int ?_, rfl⟩
  unfold Pl.wgt
  repeat' split
  all_goals first | rfl | omega

set_option maxRecDepth 100000 in
set_option maxHeartbeats 2000000 in
theorem weightOf_5_4 (a b x y : Int) (w : World) (_r : 0 ≤ x ∧ x ≤ 6 ∧ 0 ≤ y ∧ y ≤ 6) (HX : Hid (∀ W : World, Calls Tryd.prog 90 #[.int .i64 a] W fun e w' => e = .returned (.int .i64 x) ∧ W = w')) (HY : Hid (∀ W : World, Calls Tryd.prog 90 #[.int .i64 b] W fun e w' => e = .returned (.int .i64 y) ∧ W = w')) (h : 4 ≤ x ∧ y ≠ 4) :
    Calls Tryd.prog 68 #[.int .i64 5, .int .i64 a, .int .i64 b] w fun x' w' => x' = .returned (.int .i64 (Pl.wgt 5 a b x y)) ∧ w = w' := by
  obtain ⟨k0, k1⟩ := h
  have z0 : (y == 4) = false := by rw [beq_eq_false_iff_ne]; omega
  have nx : ¬ x < 4 := by omega
  go_enter Tryd.func68, Tryd.ntmps68
  go_wp2_with fail
  refine (HX.out _).mono ?_
  rintro r w1 ⟨rfl, hw⟩
  subst hw
  go_wp2_with fail
  refine (HY.out _).mono ?_
  rintro r w2 ⟨rfl, hw⟩
  subst hw
  clear HX HY
  go_wp2
  go_ret
  refine ⟨ret_int ?_, rfl⟩
  unfold Pl.wgt
  repeat' split
  all_goals first | rfl | omega

set_option maxRecDepth 100000 in
set_option maxHeartbeats 2000000 in
theorem weightOf_6_0 (a b x y : Int) (w : World) (_r : 0 ≤ x ∧ x ≤ 6 ∧ 0 ≤ y ∧ y ≤ 6) (HX : Hid (∀ W : World, Calls Tryd.prog 90 #[.int .i64 a] W fun e w' => e = .returned (.int .i64 x) ∧ W = w')) (HY : Hid (∀ W : World, Calls Tryd.prog 90 #[.int .i64 b] W fun e w' => e = .returned (.int .i64 y) ∧ W = w')) (h : x = 4 ∧ y < 4) :
    Calls Tryd.prog 68 #[.int .i64 6, .int .i64 a, .int .i64 b] w fun x' w' => x' = .returned (.int .i64 (Pl.wgt 6 a b x y)) ∧ w = w' := by
  obtain ⟨rfl, k0⟩ := h
  go_enter Tryd.func68, Tryd.ntmps68
  go_wp2_with fail
  refine (HX.out _).mono ?_
  rintro r w1 ⟨rfl, hw⟩
  subst hw
  go_wp2_with fail
  refine (HY.out _).mono ?_
  rintro r w2 ⟨rfl, hw⟩
  subst hw
  clear HX HY
  go_wp2
  go_ret
  refine ⟨ret_int ?_, rfl⟩
  unfold Pl.wgt
  repeat' split
  all_goals first | rfl | omega

set_option maxRecDepth 100000 in
set_option maxHeartbeats 2000000 in
theorem weightOf_6_1 (a b x y : Int) (w : World) (_r : 0 ≤ x ∧ x ≤ 6 ∧ 0 ≤ y ∧ y ≤ 6) (HX : Hid (∀ W : World, Calls Tryd.prog 90 #[.int .i64 a] W fun e w' => e = .returned (.int .i64 x) ∧ W = w')) (HY : Hid (∀ W : World, Calls Tryd.prog 90 #[.int .i64 b] W fun e w' => e = .returned (.int .i64 y) ∧ W = w')) (h : x = 4 ∧ 4 ≤ y) :
    Calls Tryd.prog 68 #[.int .i64 6, .int .i64 a, .int .i64 b] w fun x' w' => x' = .returned (.int .i64 (Pl.wgt 6 a b x y)) ∧ w = w' := by
  obtain ⟨rfl, k0⟩ := h
  have ny : ¬ y < 4 := by omega
  go_enter Tryd.func68, Tryd.ntmps68
  go_wp2_with fail
  refine (HX.out _).mono ?_
  rintro r w1 ⟨rfl, hw⟩
  subst hw
  go_wp2_with fail
  refine (HY.out _).mono ?_
  rintro r w2 ⟨rfl, hw⟩
  subst hw
  clear HX HY
  go_wp2
  go_ret
  refine ⟨ret_int ?_, rfl⟩
  unfold Pl.wgt
  repeat' split
  all_goals first | rfl | omega

set_option maxRecDepth 100000 in
set_option maxHeartbeats 2000000 in
theorem weightOf_6_2 (a b x y : Int) (w : World) (_r : 0 ≤ x ∧ x ≤ 6 ∧ 0 ≤ y ∧ y ≤ 6) (HX : Hid (∀ W : World, Calls Tryd.prog 90 #[.int .i64 a] W fun e w' => e = .returned (.int .i64 x) ∧ W = w')) (HY : Hid (∀ W : World, Calls Tryd.prog 90 #[.int .i64 b] W fun e w' => e = .returned (.int .i64 y) ∧ W = w')) (h : x < 4 ∧ y < 4) :
    Calls Tryd.prog 68 #[.int .i64 6, .int .i64 a, .int .i64 b] w fun x' w' => x' = .returned (.int .i64 (Pl.wgt 6 a b x y)) ∧ w = w' := by
  obtain ⟨k0, k1⟩ := h
  have z0 : (x == 4) = false := by rw [beq_eq_false_iff_ne]; omega
  go_enter Tryd.func68, Tryd.ntmps68
  go_wp2_with fail
  refine (HX.out _).mono ?_
  rintro r w1 ⟨rfl, hw⟩
  subst hw
  go_wp2_with fail
  refine (HY.out _).mono ?_
  rintro r w2 ⟨rfl, hw⟩
  subst hw
  clear HX HY
  go_wp2
  go_ret
  refine ⟨ret_int ?_, rfl⟩
  unfold Pl.wgt
  repeat' split
  all_goals first | rfl | omega

set_option maxRecDepth 100000 in
set_option maxHeartbeats 2000000 in
theorem weightOf_6_3 (a b x y : Int) (w : World) (_r : 0 ≤ x ∧ x ≤ 6 ∧ 0 ≤ y ∧ y ≤ 6) (HX : Hid (∀ W : World, Calls Tryd.prog 90 #[.int .i64 a] W fun e w' => e = .returned (.int .i64 x) ∧ W = w')) (HY : Hid (∀ W : World, Calls Tryd.prog 90 #[.int .i64 b] W fun e w' => e = .returned (.int .i64 y) ∧ W = w')) (h : x < 4 ∧ 4 ≤ y) :
    Calls Tryd.prog 68 #[.int .i64 6, .int .i64 a, .int .i64 b] w fun x' w' => x' = .returned (.int .i64 (Pl.wgt 6 a b x y)) ∧ w = w' := by
  obtain ⟨k0, k1⟩ := h
  have z0 : (x == 4) = false := by rw [beq_eq_false_iff_ne]; omega
  have ny : ¬ y < 4 := by omega
  go_enter Tryd.func68, Tryd.ntmps68
  go_wp2_with fail
  refine (HX.out _).mono ?_
  rintro r w1 ⟨rfl, hw⟩
  subst hw
  go_wp2_with fail
  refine (HY.out _).mono ?_
  rintro r w2 ⟨rfl, hw⟩
  subst hw
  clear HX HY
  go_wp2
  go_ret
  refine ⟨ret_int ?_, rfl⟩
  unfold Pl.wgt
  repeat' split
  all_goals first | rfl | omega

set_option maxRecDepth 100000 in
set_option maxHeartbeats 2000000 in
theorem weightOf_6_4 (a b x y : Int) (w : World) (_r : 0 ≤ x ∧ x ≤ 6 ∧ 0 ≤ y ∧ y ≤ 6) (HX : Hid (∀ W : World, Calls Tryd.prog 90 #[.int .i64 a] W fun e w' => e = .returned (.int .i64 x) ∧ W = w')) (HY : Hid (∀ W : World, Calls Tryd.prog 90 #[.int .i64 b] W fun e w' => e = .returned (.int .i64 y) ∧ W = w')) (h : 4 < x) :
    Calls Tryd.prog 68 #[.int .i64 6, .int .i64 a, .int .i64 b] w fun x' w' => x' = .returned (.int .i64 (Pl.wgt 6 a b x y)) ∧ w = w' := by
  have k0 := h
  clear h
  have z0 : (x == 4) = false := by rw [beq_eq_false_iff_ne]; omega
  have nx : ¬ x < 4 := by omega
  go_enter Tryd.func68, Tryd.ntmps68
  go_wp2_with fail
  refine (HX.out _).mono ?_
  rintro r w1 ⟨rfl, hw⟩
  subst hw
  go_wp2_with fail
  refine (HY.out _).mono ?_
  rintro r w2 ⟨rfl, hw⟩
  subst hw
  clear HX HY
  go_wp2
  go_ret
  refine ⟨ret_int ?_, rfl⟩
  unfold Pl.wgt
  repeat' split
  all_goals first | rfl | omega

set_option maxHeartbeats 4000000 in
theorem weightOf_any (e a b : Int) (w : World) (he1 : 1 ≤ e) (he6 : e ≤ 6) (ha0 : 0 ≤ a) (ha1 : a ≤ 255) (hb0 : 0 ≤ b) (hb1 : b ≤ 255) :
    Calls Tryd.prog 68 #[.int .i64 e, .int .i64 a, .int .i64 b] w fun x w' => x = .returned (.int .i64 (Pl.weight e a b)) ∧ w = w' := by
  obtain ⟨x, hx⟩ : ∃ x, Pl.cls a = x := ⟨_, rfl⟩
  obtain ⟨y, hy⟩ : ∃ y, Pl.cls b = y := ⟨_, rfl⟩
  have rx := Pl.cls_range a
  have ry := Pl.cls_range b
  rw [hx] at rx
  rw [hy] at ry
  have r : 0 ≤ x ∧ x ≤ 6 ∧ 0 ≤ y ∧ y ≤ 6 := by omega
  rw [show Pl.weight e a b = Pl.wgt e a b x y by unfold Pl.weight; rw [hx, hy]]
  have HX : Hid (∀ W, Calls Tryd.prog 90 #[.int .i64 a] W fun e w' => e = .returned (.int .i64 x) ∧ W = w') := Lib.hid fun W => by rw [← hx]; exact classOf_any a W ha0 ha1
  have HY : Hid (∀ W, Calls Tryd.prog 90 #[.int .i64 b] W fun e w' => e = .returned (.int .i64 y) ∧ W = w') := Lib.hid fun W => by rw [← hy]; exact classOf_any b W hb0 hb1
  rcases (show e = 1 ∨ e = 2 ∨ e = 3 ∨ e = 4 ∨ e = 5 ∨ e = 6 by omega) with rfl | rfl | rfl | rfl | rfl | rfl
  · rcases (show (x < 4 ∧ y < 4) ∨ (x < 4 ∧ 4 ≤ y) ∨ (x = 6 ∧ y = 5) ∨ (x = 6 ∧ y ≠ 5) ∨ (4 ≤ x ∧ x ≠ 6) by omega) with h | h | h | h | h
    · exact weightOf_1_0 a b x y w r HX HY h
    · exact weightOf_1_1 a b x y w r HX HY h
    · exact weightOf_1_2 a b x y w r HX HY h
    · exact weightOf_1_3 a b x y w r HX HY h
    · exact weightOf_1_4 a b x y w r HX HY h
  · rcases (show (a = 27 ∧ x < 4 ∧ y < 4) ∨ (a = 27 ∧ x < 4 ∧ 4 ≤ y) ∨ (a = 27 ∧ 4 ≤ x) ∨ (a ≠ 27 ∧ b = 27 ∧ x < 4 ∧ y < 4) ∨ (a ≠ 27 ∧ b = 27 ∧ x < 4 ∧ 4 ≤ y) ∨ (a ≠ 27 ∧ b = 27 ∧ 4 ≤ x) ∨ (a ≠ 27 ∧ b ≠ 27 ∧ x < 4 ∧ y < 4) ∨ (a ≠ 27 ∧ b ≠ 27 ∧ x < 4 ∧ 4 ≤ y) ∨ (a ≠ 27 ∧ b ≠ 27 ∧ 4 ≤ x) by omega) with h | h | h | h | h | h | h | h | h
    · exact weightOf_2_0 a b x y w r HX HY h
    · exact weightOf_2_1 a b x y w r HX HY h
    · exact weightOf_2_2 a b x y w r HX HY h
    · exact weightOf_2_3 a b x y w r HX HY h
    · exact weightOf_2_4 a b x y w r HX HY h
    · exact weightOf_2_5 a b x y w r HX HY h
    · exact weightOf_2_6 a b x y w r HX HY h
    · exact weightOf_2_7 a b x y w r HX HY h
    · exact weightOf_2_8 a b x y w r HX HY h
  · rcases (show (x < 4 ∧ y < 4) ∨ (x < 4 ∧ 4 ≤ y) ∨ (x = 5 ∧ y ≠ 4) ∨ (x = 5 ∧ y = 4) ∨ (4 ≤ x ∧ x ≠ 5) by omega) with h | h | h | h | h
    · exact weightOf_3_0 a b x y w r HX HY h
    · exact weightOf_3_1 a b x y w r HX HY h
    · exact weightOf_3_2 a b x y w r HX HY h
    · exact weightOf_3_3 a b x y w r HX HY h
    · exact weightOf_3_4 a b x y w r HX HY h
  · rcases (show (x = 0 ∧ y = 6) ∨ (x = 0 ∧ y < 4) ∨ (x = 0 ∧ 4 ≤ y ∧ y ≠ 6) ∨ (0 < x ∧ x < 4 ∧ y < 4) ∨ (0 < x ∧ x < 4 ∧ 4 ≤ y) ∨ (x = 6 ∧ y = 0) ∨ (x = 6 ∧ y ≠ 0) ∨ (4 ≤ x ∧ x ≠ 6) by omega) with h | h | h | h | h | h | h | h
    · exact weightOf_4_0 a b x y w r HX HY h
    · exact weightOf_4_1 a b x y w r HX HY h
    · exact weightOf_4_2 a b x y w r HX HY h
    · exact weightOf_4_3 a b x y w r HX HY h
    · exact weightOf_4_4 a b x y w r HX HY h
    · exact weightOf_4_5 a b x y w r HX HY h
    · exact weightOf_4_6 a b x y w r HX HY h
    · exact weightOf_4_7 a b x y w r HX HY h
  · rcases (show (y = 4 ∧ x < 4) ∨ (y = 4 ∧ 4 ≤ x) ∨ (x < 4 ∧ y < 4) ∨ (x < 4 ∧ 4 < y) ∨ (4 ≤ x ∧ y ≠ 4) by omega) with h | h | h | h | h
    · exact weightOf_5_0 a b x y w r HX HY h
    · exact weightOf_5_1 a b x y w r HX HY h
    · exact weightOf_5_2 a b x y w r HX HY h
    · exact weightOf_5_3 a b x y w r HX HY h
    · exact weightOf_5_4 a b x y w r HX HY h
  · rcases (show (x = 4 ∧ y < 4) ∨ (x = 4 ∧ 4 ≤ y) ∨ (x < 4 ∧ y < 4) ∨ (x < 4 ∧ 4 ≤ y) ∨ (4 < x) by omega) with h | h | h | h | h
    · exact weightOf_6_0 a b x y w r HX HY h
    · exact weightOf_6_1 a b x y w r HX HY h
    · exact weightOf_6_2 a b x y w r HX HY h
    · exact weightOf_6_3 a b x y w r HX HY h
    · exact weightOf_6_4 a b x y w r HX HY h
end Go.Proofs.YtefohnbmifblkaaDoor
