/-
  The walks of decode.Good at every good state of pairs.
-/
import Derived.Test.YtefohnbmifblkabDoorDcA
namespace Go.Proofs.YtefohnbmifblkabDoor
open Go.RowKit
open Pl (St st0 byte)

set_option maxRecDepth 100000 in
set_option maxHeartbeats 4000000 in
theorem good_pairs5_nil0 (w : World) :
    Calls Tryd.prog 61 #[.int .i64 5, stV ⟨0, 0, 0, 0, [], 0, 0⟩] w fun e w' => e = .returned (.bool true) ∧ Below w.heap.size w w' := by
  unfold stV
  go_enter Tryd.func61, Tryd.ntmps61
  go_wp2_with fail
  all_goals
    go_ret
    refine ⟨rfl, ?_⟩
    repeat (first | exact Below.refl _ _ | refine Below.alloc ?_ (by simp) _)

set_option maxRecDepth 100000 in
set_option maxHeartbeats 4000000 in
theorem good_pairs5_nil1 (h : Int) (h0 : 55296 ≤ h) (h1 : h ≤ 56319) (w : World) :
    Calls Tryd.prog 61 #[.int .i64 5, stV ⟨0, 0, 0, 0, [], h, 0⟩] w fun e w' => e = .returned (.bool true) ∧ Below w.heap.size w w' := by
  unfold stV
  have hhn : ¬ h = 0 := by omega
  go_enter Tryd.func61, Tryd.ntmps61
  go_wp2_with fail
  all_goals
    go_ret
    refine ⟨rfl, ?_⟩
    repeat (first | exact Below.refl _ _ | refine Below.alloc ?_ (by simp) _)

set_option maxRecDepth 100000 in
set_option maxHeartbeats 4000000 in
theorem good_pairs5_one0 (l : UInt8) (w : World) :
    Calls Tryd.prog 61 #[.int .i64 5, stV ⟨0, 0, 0, 0, [l], 0, 0⟩] w fun e w' => e = .returned (.bool true) ∧ Below w.heap.size w w' := by
  unfold stV
  go_enter Tryd.func61, Tryd.ntmps61
  go_wp2_with fail
  all_goals
    go_ret
    refine ⟨rfl, ?_⟩
    repeat (first | exact Below.refl _ _ | refine Below.alloc ?_ (by simp) _)

set_option maxRecDepth 100000 in
set_option maxHeartbeats 4000000 in
theorem good_pairs5_one1 (l : UInt8) (h : Int) (h0 : 55296 ≤ h) (h1 : h ≤ 56319) (w : World) :
    Calls Tryd.prog 61 #[.int .i64 5, stV ⟨0, 0, 0, 0, [l], h, 0⟩] w fun e w' => e = .returned (.bool true) ∧ Below w.heap.size w w' := by
  unfold stV
  have hhn : ¬ h = 0 := by omega
  go_enter Tryd.func61, Tryd.ntmps61
  go_wp2_with fail
  all_goals
    go_ret
    refine ⟨rfl, ?_⟩
    repeat (first | exact Below.refl _ _ | refine Below.alloc ?_ (by simp) _)

set_option maxRecDepth 100000 in
set_option maxHeartbeats 4000000 in
theorem good_pairs6_nil0 (w : World) :
    Calls Tryd.prog 61 #[.int .i64 6, stV ⟨0, 0, 0, 0, [], 0, 0⟩] w fun e w' => e = .returned (.bool true) ∧ Below w.heap.size w w' := by
  unfold stV
  go_enter Tryd.func61, Tryd.ntmps61
  go_wp2_with fail
  all_goals
    go_ret
    refine ⟨rfl, ?_⟩
    repeat (first | exact Below.refl _ _ | refine Below.alloc ?_ (by simp) _)

set_option maxRecDepth 100000 in
set_option maxHeartbeats 4000000 in
theorem good_pairs6_nil1 (h : Int) (h0 : 55296 ≤ h) (h1 : h ≤ 56319) (w : World) :
    Calls Tryd.prog 61 #[.int .i64 6, stV ⟨0, 0, 0, 0, [], h, 0⟩] w fun e w' => e = .returned (.bool true) ∧ Below w.heap.size w w' := by
  unfold stV
  have hhn : ¬ h = 0 := by omega
  go_enter Tryd.func61, Tryd.ntmps61
  go_wp2_with fail
  all_goals
    go_ret
    refine ⟨rfl, ?_⟩
    repeat (first | exact Below.refl _ _ | refine Below.alloc ?_ (by simp) _)

set_option maxRecDepth 100000 in
set_option maxHeartbeats 4000000 in
theorem good_pairs6_one0 (l : UInt8) (w : World) :
    Calls Tryd.prog 61 #[.int .i64 6, stV ⟨0, 0, 0, 0, [l], 0, 0⟩] w fun e w' => e = .returned (.bool true) ∧ Below w.heap.size w w' := by
  unfold stV
  go_enter Tryd.func61, Tryd.ntmps61
  go_wp2_with fail
  all_goals
    go_ret
    refine ⟨rfl, ?_⟩
    repeat (first | exact Below.refl _ _ | refine Below.alloc ?_ (by simp) _)

set_option maxRecDepth 100000 in
set_option maxHeartbeats 4000000 in
theorem good_pairs6_one1 (l : UInt8) (h : Int) (h0 : 55296 ≤ h) (h1 : h ≤ 56319) (w : World) :
    Calls Tryd.prog 61 #[.int .i64 6, stV ⟨0, 0, 0, 0, [l], h, 0⟩] w fun e w' => e = .returned (.bool true) ∧ Below w.heap.size w w' := by
  unfold stV
  have hhn : ¬ h = 0 := by omega
  go_enter Tryd.func61, Tryd.ntmps61
  go_wp2_with fail
  all_goals
    go_ret
    refine ⟨rfl, ?_⟩
    repeat (first | exact Below.refl _ _ | refine Below.alloc ?_ (by simp) _)
end Go.Proofs.YtefohnbmifblkabDoor
