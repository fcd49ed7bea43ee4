/-
  The walks of decode.Good at every good state.
-/
import Derived.Test.YtefohnbmifblkaaDoorDcA
namespace Go.Proofs.YtefohnbmifblkaaDoor
open Go.RowKit
open Pl (St st0 byte)

set_option maxRecDepth 100000 in
set_option maxHeartbeats 4000000 in
theorem good_utf0 (w : World) :
    Calls Tryd.prog 92 #[.int .i64 1, stV ⟨0, 0, 0, 0, [], 0, 0⟩] w fun e w' => e = .returned (.bool true) ∧ Below w.heap.size w w' := by
  unfold stV
  go_enter Tryd.func92, Tryd.ntmps92
  go_wp2_with fail
  all_goals
    go_ret
    refine ⟨rfl, ?_⟩
    repeat (first | exact Below.refl _ _ | refine Below.alloc ?_ (by simp) _)

set_option maxRecDepth 100000 in
set_option maxHeartbeats 4000000 in
theorem good_utf1 (cd f t : Int) (h0 : 0 ≤ cd) (h1 : cd < 32768) (h2 : 128 ≤ f) (h3 : t ≤ 191) (w : World) :
    Calls Tryd.prog 92 #[.int .i64 1, stV ⟨1, cd, f, t, [], 0, 0⟩] w fun e w' => e = .returned (.bool true) ∧ Below w.heap.size w w' := by
  unfold stV
  go_enter Tryd.func92, Tryd.ntmps92
  go_wp2_with fail
  all_goals
    go_ret
    refine ⟨rfl, ?_⟩
    repeat (first | exact Below.refl _ _ | refine Below.alloc ?_ (by simp) _)

set_option maxRecDepth 100000 in
set_option maxHeartbeats 4000000 in
theorem good_utf2 (cd f t : Int) (h0 : 0 ≤ cd) (h1 : cd < 512) (h2 : 128 ≤ f) (h3 : t ≤ 191) (w : World) :
    Calls Tryd.prog 92 #[.int .i64 1, stV ⟨2, cd, f, t, [], 0, 0⟩] w fun e w' => e = .returned (.bool true) ∧ Below w.heap.size w w' := by
  unfold stV
  go_enter Tryd.func92, Tryd.ntmps92
  go_wp2_with fail
  all_goals
    go_ret
    refine ⟨rfl, ?_⟩
    repeat (first | exact Below.refl _ _ | refine Below.alloc ?_ (by simp) _)

set_option maxRecDepth 100000 in
set_option maxHeartbeats 4000000 in
theorem good_utf3 (cd f t : Int) (h0 : 0 ≤ cd) (h1 : cd < 8) (h2 : 128 ≤ f) (h3 : t ≤ 191) (w : World) :
    Calls Tryd.prog 92 #[.int .i64 1, stV ⟨3, cd, f, t, [], 0, 0⟩] w fun e w' => e = .returned (.bool true) ∧ Below w.heap.size w w' := by
  unfold stV
  go_enter Tryd.func92, Tryd.ntmps92
  go_wp2_with fail
  all_goals
    go_ret
    refine ⟨rfl, ?_⟩
    repeat (first | exact Below.refl _ _ | refine Below.alloc ?_ (by simp) _)

set_option maxRecDepth 100000 in
set_option maxHeartbeats 4000000 in
theorem good_shift_nil0 (w : World) :
    Calls Tryd.prog 92 #[.int .i64 2, stV ⟨0, 0, 0, 0, [], 0, 0⟩] w fun e w' => e = .returned (.bool true) ∧ Below w.heap.size w w' := by
  unfold stV
  go_enter Tryd.func92, Tryd.ntmps92
  go_wp2_with fail
  all_goals
    go_ret
    refine ⟨rfl, ?_⟩
    repeat (first | exact Below.refl _ _ | refine Below.alloc ?_ (by simp) _)

set_option maxRecDepth 100000 in
set_option maxHeartbeats 4000000 in
theorem good_shift_esc0 (w : World) :
    Calls Tryd.prog 92 #[.int .i64 2, stV ⟨0, 0, 0, 0, [27], 0, 0⟩] w fun e w' => e = .returned (.bool true) ∧ Below w.heap.size w w' := by
  unfold stV
  go_enter Tryd.func92, Tryd.ntmps92
  go_wp2_with fail
  all_goals
    go_ret
    refine ⟨rfl, ?_⟩
    repeat (first | exact Below.refl _ _ | refine Below.alloc ?_ (by simp) _)

set_option maxRecDepth 100000 in
set_option maxHeartbeats 4000000 in
theorem good_shift_two0 (w : World) :
    Calls Tryd.prog 92 #[.int .i64 2, stV ⟨0, 0, 0, 0, [27, 40], 0, 0⟩] w fun e w' => e = .returned (.bool true) ∧ Below w.heap.size w w' := by
  unfold stV
  go_enter Tryd.func92, Tryd.ntmps92
  go_wp2_with fail
  all_goals
    go_ret
    refine ⟨rfl, ?_⟩
    repeat (first | exact Below.refl _ _ | refine Below.alloc ?_ (by simp) _)

set_option maxRecDepth 100000 in
set_option maxHeartbeats 4000000 in
theorem good_shift_dol0 (w : World) :
    Calls Tryd.prog 92 #[.int .i64 2, stV ⟨0, 0, 0, 0, [27, 36], 0, 0⟩] w fun e w' => e = .returned (.bool true) ∧ Below w.heap.size w w' := by
  unfold stV
  go_enter Tryd.func92, Tryd.ntmps92
  go_wp2_with fail
  all_goals
    go_ret
    refine ⟨rfl, ?_⟩
    repeat (first | exact Below.refl _ _ | refine Below.alloc ?_ (by simp) _)

set_option maxRecDepth 100000 in
set_option maxHeartbeats 4000000 in
theorem good_shift_nil1 (w : World) :
    Calls Tryd.prog 92 #[.int .i64 2, stV ⟨0, 0, 0, 0, [], 0, 1⟩] w fun e w' => e = .returned (.bool true) ∧ Below w.heap.size w w' := by
  unfold stV
  go_enter Tryd.func92, Tryd.ntmps92
  go_wp2_with fail
  all_goals
    go_ret
    refine ⟨rfl, ?_⟩
    repeat (first | exact Below.refl _ _ | refine Below.alloc ?_ (by simp) _)

set_option maxRecDepth 100000 in
set_option maxHeartbeats 4000000 in
theorem good_shift_esc1 (w : World) :
    Calls Tryd.prog 92 #[.int .i64 2, stV ⟨0, 0, 0, 0, [27], 0, 1⟩] w fun e w' => e = .returned (.bool true) ∧ Below w.heap.size w w' := by
  unfold stV
  go_enter Tryd.func92, Tryd.ntmps92
  go_wp2_with fail
  all_goals
    go_ret
    refine ⟨rfl, ?_⟩
    repeat (first | exact Below.refl _ _ | refine Below.alloc ?_ (by simp) _)

set_option maxRecDepth 100000 in
set_option maxHeartbeats 4000000 in
theorem good_shift_two1 (w : World) :
    Calls Tryd.prog 92 #[.int .i64 2, stV ⟨0, 0, 0, 0, [27, 40], 0, 1⟩] w fun e w' => e = .returned (.bool true) ∧ Below w.heap.size w w' := by
  unfold stV
  go_enter Tryd.func92, Tryd.ntmps92
  go_wp2_with fail
  all_goals
    go_ret
    refine ⟨rfl, ?_⟩
    repeat (first | exact Below.refl _ _ | refine Below.alloc ?_ (by simp) _)

set_option maxRecDepth 100000 in
set_option maxHeartbeats 4000000 in
theorem good_shift_dol1 (w : World) :
    Calls Tryd.prog 92 #[.int .i64 2, stV ⟨0, 0, 0, 0, [27, 36], 0, 1⟩] w fun e w' => e = .returned (.bool true) ∧ Below w.heap.size w w' := by
  unfold stV
  go_enter Tryd.func92, Tryd.ntmps92
  go_wp2_with fail
  all_goals
    go_ret
    refine ⟨rfl, ?_⟩
    repeat (first | exact Below.refl _ _ | refine Below.alloc ?_ (by simp) _)

set_option maxRecDepth 100000 in
set_option maxHeartbeats 4000000 in
theorem good_shift_lead (l : UInt8) (h0 : 33 ≤ l.toNat) (h1 : l.toNat ≤ 126) (w : World) :
    Calls Tryd.prog 92 #[.int .i64 2, stV ⟨0, 0, 0, 0, [l], 0, 1⟩] w fun e w' => e = .returned (.bool true) ∧ Below w.heap.size w w' := by
  unfold stV
  obtain ⟨k, hk⟩ : ∃ k : Nat, l.toNat = k := ⟨_, rfl⟩
  have hix := str_first l k hk
  have HL := Lib.hid h0
  rw [hk] at h0 h1
  clear hk
  have hk0 : (33 : Int) ≤ k := by omega
  have hk1 : (k : Int) ≤ 126 := by omega
  have hl : ¬ l = 27 := by
    rintro rfl
    exact absurd HL.out (by decide)
  have hl2 : (l == 27) = false := by simpa using hl
  go_enter Tryd.func92, Tryd.ntmps92
  go_wp2_with fail
  all_goals
    go_ret
    refine ⟨rfl, ?_⟩
    repeat (first | exact Below.refl _ _ | refine Below.alloc ?_ (by simp) _)

set_option maxRecDepth 100000 in
set_option maxHeartbeats 4000000 in
theorem good_twin0 (w : World) :
    Calls Tryd.prog 92 #[.int .i64 3, stV ⟨0, 0, 0, 0, [], 0, 0⟩] w fun e w' => e = .returned (.bool true) ∧ Below w.heap.size w w' := by
  unfold stV
  go_enter Tryd.func92, Tryd.ntmps92
  go_wp2_with fail
  all_goals
    go_ret
    refine ⟨rfl, ?_⟩
    repeat (first | exact Below.refl _ _ | refine Below.alloc ?_ (by simp) _)

set_option maxRecDepth 100000 in
set_option maxHeartbeats 4000000 in
theorem good_twin1 (l : UInt8) (h0 : 129 ≤ l.toNat) (h1 : l.toNat ≤ 159) (w : World) :
    Calls Tryd.prog 92 #[.int .i64 3, stV ⟨0, 0, 0, 0, [l], 0, 0⟩] w fun e w' => e = .returned (.bool true) ∧ Below w.heap.size w w' := by
  unfold stV
  obtain ⟨k, hk⟩ : ∃ k : Nat, l.toNat = k := ⟨_, rfl⟩
  have hix := str_first l k hk
  have HL := Lib.hid h0
  rw [hk] at h0 h1
  clear hk
  have hk0 : (129 : Int) ≤ k := by omega
  have hk1 : (k : Int) ≤ 159 := by omega
  go_enter Tryd.func92, Tryd.ntmps92
  go_wp2_with fail
  all_goals
    go_ret
    refine ⟨rfl, ?_⟩
    repeat (first | exact Below.refl _ _ | refine Below.alloc ?_ (by simp) _)

set_option maxRecDepth 100000 in
set_option maxHeartbeats 4000000 in
theorem good_latin (w : World) :
    Calls Tryd.prog 92 #[.int .i64 4, stV ⟨0, 0, 0, 0, [], 0, 0⟩] w fun e w' => e = .returned (.bool true) ∧ Below w.heap.size w w' := by
  unfold stV
  go_enter Tryd.func92, Tryd.ntmps92
  go_wp2_with fail
  all_goals
    go_ret
    refine ⟨rfl, ?_⟩
    repeat (first | exact Below.refl _ _ | refine Below.alloc ?_ (by simp) _)
end Go.Proofs.YtefohnbmifblkaaDoor

/-
  The walks of decode.Good at every good state of pairs.
-/
namespace Go.Proofs.YtefohnbmifblkaaDoor
open Go.RowKit
open Pl (St st0 byte)

set_option maxRecDepth 100000 in
set_option maxHeartbeats 4000000 in
theorem good_pairs5_nil0 (w : World) :
    Calls Tryd.prog 92 #[.int .i64 5, stV ⟨0, 0, 0, 0, [], 0, 0⟩] w fun e w' => e = .returned (.bool true) ∧ Below w.heap.size w w' := by
  unfold stV
  go_enter Tryd.func92, Tryd.ntmps92
  go_wp2_with fail
  all_goals
    go_ret
    refine ⟨rfl, ?_⟩
    repeat (first | exact Below.refl _ _ | refine Below.alloc ?_ (by simp) _)

set_option maxRecDepth 100000 in
set_option maxHeartbeats 4000000 in
theorem good_pairs5_nil1 (h : Int) (h0 : 55296 ≤ h) (h1 : h ≤ 56319) (w : World) :
    Calls Tryd.prog 92 #[.int .i64 5, stV ⟨0, 0, 0, 0, [], h, 0⟩] w fun e w' => e = .returned (.bool true) ∧ Below w.heap.size w w' := by
  unfold stV
  have hhn : ¬ h = 0 := by omega
  go_enter Tryd.func92, Tryd.ntmps92
  go_wp2_with fail
  all_goals
    go_ret
    refine ⟨rfl, ?_⟩
    repeat (first | exact Below.refl _ _ | refine Below.alloc ?_ (by simp) _)

set_option maxRecDepth 100000 in
set_option maxHeartbeats 4000000 in
theorem good_pairs5_one0 (l : UInt8) (w : World) :
    Calls Tryd.prog 92 #[.int .i64 5, stV ⟨0, 0, 0, 0, [l], 0, 0⟩] w fun e w' => e = .returned (.bool true) ∧ Below w.heap.size w w' := by
  unfold stV
  go_enter Tryd.func92, Tryd.ntmps92
  go_wp2_with fail
  all_goals
    go_ret
    refine ⟨rfl, ?_⟩
    repeat (first | exact Below.refl _ _ | refine Below.alloc ?_ (by simp) _)

set_option maxRecDepth 100000 in
set_option maxHeartbeats 4000000 in
theorem good_pairs5_one1 (l : UInt8) (h : Int) (h0 : 55296 ≤ h) (h1 : h ≤ 56319) (w : World) :
    Calls Tryd.prog 92 #[.int .i64 5, stV ⟨0, 0, 0, 0, [l], h, 0⟩] w fun e w' => e = .returned (.bool true) ∧ Below w.heap.size w w' := by
  unfold stV
  have hhn : ¬ h = 0 := by omega
  go_enter Tryd.func92, Tryd.ntmps92
  go_wp2_with fail
  all_goals
    go_ret
    refine ⟨rfl, ?_⟩
    repeat (first | exact Below.refl _ _ | refine Below.alloc ?_ (by simp) _)

set_option maxRecDepth 100000 in
set_option maxHeartbeats 4000000 in
theorem good_pairs6_nil0 (w : World) :
    Calls Tryd.prog 92 #[.int .i64 6, stV ⟨0, 0, 0, 0, [], 0, 0⟩] w fun e w' => e = .returned (.bool true) ∧ Below w.heap.size w w' := by
  unfold stV
  go_enter Tryd.func92, Tryd.ntmps92
  go_wp2_with fail
  all_goals
    go_ret
    refine ⟨rfl, ?_⟩
    repeat (first | exact Below.refl _ _ | refine Below.alloc ?_ (by simp) _)

set_option maxRecDepth 100000 in
set_option maxHeartbeats 4000000 in
theorem good_pairs6_nil1 (h : Int) (h0 : 55296 ≤ h) (h1 : h ≤ 56319) (w : World) :
    Calls Tryd.prog 92 #[.int .i64 6, stV ⟨0, 0, 0, 0, [], h, 0⟩] w fun e w' => e = .returned (.bool true) ∧ Below w.heap.size w w' := by
  unfold stV
  have hhn : ¬ h = 0 := by omega
  go_enter Tryd.func92, Tryd.ntmps92
  go_wp2_with fail
  all_goals
    go_ret
    refine ⟨rfl, ?_⟩
    repeat (first | exact Below.refl _ _ | refine Below.alloc ?_ (by simp) _)

set_option maxRecDepth 100000 in
set_option maxHeartbeats 4000000 in
theorem good_pairs6_one0 (l : UInt8) (w : World) :
    Calls Tryd.prog 92 #[.int .i64 6, stV ⟨0, 0, 0, 0, [l], 0, 0⟩] w fun e w' => e = .returned (.bool true) ∧ Below w.heap.size w w' := by
  unfold stV
  go_enter Tryd.func92, Tryd.ntmps92
  go_wp2_with fail
  all_goals
    go_ret
    refine ⟨rfl, ?_⟩
    repeat (first | exact Below.refl _ _ | refine Below.alloc ?_ (by simp) _)

set_option maxRecDepth 100000 in
set_option maxHeartbeats 4000000 in
theorem good_pairs6_one1 (l : UInt8) (h : Int) (h0 : 55296 ≤ h) (h1 : h ≤ 56319) (w : World) :
    Calls Tryd.prog 92 #[.int .i64 6, stV ⟨0, 0, 0, 0, [l], h, 0⟩] w fun e w' => e = .returned (.bool true) ∧ Below w.heap.size w w' := by
  unfold stV
  have hhn : ¬ h = 0 := by omega
  go_enter Tryd.func92, Tryd.ntmps92
  go_wp2_with fail
  all_goals
    go_ret
    refine ⟨rfl, ?_⟩
    repeat (first | exact Below.refl _ _ | refine Below.alloc ?_ (by simp) _)
end Go.Proofs.YtefohnbmifblkaaDoor
