/-
  The walks of auto's small functions and of score's class and bound: they return what the plain functions say.
-/
import Derived.Test.YtefohnbmifblkaaDoorPlD
import Derived.Test.YtefohnbmifblkaaDoorMem
import Derived.Test.YtefohnbmifblkaaDoorRows
namespace Go.Proofs.YtefohnbmifblkaaDoor
open Go.RowKit

set_option maxRecDepth 100000 in
set_option maxHeartbeats 8000000 in
theorem aUtf_any (s b : Int) (w : World) (_h0 : 0 ≤ s) (_h8 : s ≤ 8) (_hb0 : 0 ≤ b) (_hb1 : b ≤ 255) :
    Calls Tryd.prog 80 #[.int .i64 s, .int .i64 b] w fun e w' => e = .returned (.int .i64 (Pl.aUtf s b)) ∧ w = w' := by
  go_enter Tryd.func80, Tryd.ntmps80
  go_wp2
  all_goals
    go_ret
    refine ⟨ret_int ?_, rfl⟩
    try simp only [beq_iff_eq, beq_eq_false_iff_ne] at *
    unfold Pl.aUtf
    repeat (first | rw [if_neg (by omega)] | rw [if_pos (by omega)])
    try omega

set_option maxRecDepth 100000 in
set_option maxHeartbeats 8000000 in
theorem aShift_any (s b : Int) (w : World) (_h0 : 0 ≤ s) (_h8 : s ≤ 8) (_hb0 : 0 ≤ b) (_hb1 : b ≤ 255) :
    Calls Tryd.prog 81 #[.int .i64 s, .int .i64 b] w fun e w' => e = .returned (.int .i64 (Pl.aShift s b)) ∧ w = w' := by
  go_enter Tryd.func81, Tryd.ntmps81
  go_wp2
  all_goals
    go_ret
    refine ⟨ret_int ?_, rfl⟩
    try simp only [beq_iff_eq, beq_eq_false_iff_ne, bne_iff_ne, bne_eq_false_iff_eq] at *
    unfold Pl.aShift
    repeat (first | rw [if_neg (by omega)] | rw [if_pos (by omega)])
    try omega

set_option maxRecDepth 100000 in
set_option maxHeartbeats 8000000 in
theorem aTwin_any (s b : Int) (w : World) (_h0 : 0 ≤ s) (_h8 : s ≤ 8) (_hb0 : 0 ≤ b) (_hb1 : b ≤ 255) :
    Calls Tryd.prog 82 #[.int .i64 s, .int .i64 b] w fun e w' => e = .returned (.int .i64 (Pl.aTwin s b)) ∧ w = w' := by
  go_enter Tryd.func82, Tryd.ntmps82
  go_wp2
  all_goals
    go_ret
    refine ⟨ret_int ?_, rfl⟩
    try simp only [beq_iff_eq, beq_eq_false_iff_ne] at *
    unfold Pl.aTwin
    repeat (first | rw [if_neg (by omega)] | rw [if_pos (by omega)])
    try omega

set_option maxRecDepth 100000 in
set_option maxHeartbeats 8000000 in
theorem aLatin_any (b : Int) (w : World) (_hb0 : 0 ≤ b) (_hb1 : b ≤ 255) :
    Calls Tryd.prog 83 #[.int .i64 b] w fun e w' => e = .returned (.int .i64 (Pl.aLatin b)) ∧ w = w' := by
  go_enter Tryd.func83, Tryd.ntmps83
  go_wp2
  all_goals
    go_ret
    refine ⟨ret_int ?_, rfl⟩
    try simp only [beq_iff_eq, beq_eq_false_iff_ne] at *
    unfold Pl.aLatin
    repeat (first | rw [if_neg (by omega)] | rw [if_pos (by omega)])
    try omega

set_option maxRecDepth 100000 in
set_option maxHeartbeats 8000000 in
theorem aLow_any (s b : Int) (w : World) (_h0 : 0 ≤ s) (_h8 : s ≤ 8) (_hb0 : 0 ≤ b) (_hb1 : b ≤ 255) :
    Calls Tryd.prog 84 #[.int .i64 s, .int .i64 b] w fun e w' => e = .returned (.int .i64 (Pl.aLow s b)) ∧ w = w' := by
  go_enter Tryd.func84, Tryd.ntmps84
  go_wp2
  all_goals
    go_ret
    refine ⟨ret_int ?_, rfl⟩
    try simp only [beq_iff_eq, beq_eq_false_iff_ne] at *
    unfold Pl.aLow
    repeat (first | rw [if_neg (by omega)] | rw [if_pos (by omega)])
    try omega

set_option maxRecDepth 100000 in
set_option maxHeartbeats 8000000 in
theorem aHigh_any (s b : Int) (w : World) (_h0 : 0 ≤ s) (_h8 : s ≤ 8) (_hb0 : 0 ≤ b) (_hb1 : b ≤ 255) :
    Calls Tryd.prog 85 #[.int .i64 s, .int .i64 b] w fun e w' => e = .returned (.int .i64 (Pl.aHigh s b)) ∧ w = w' := by
  go_enter Tryd.func85, Tryd.ntmps85
  go_wp2
  all_goals
    go_ret
    refine ⟨ret_int ?_, rfl⟩
    try simp only [beq_iff_eq, beq_eq_false_iff_ne] at *
    unfold Pl.aHigh
    repeat (first | rw [if_neg (by omega)] | rw [if_pos (by omega)])
    try omega

set_option maxRecDepth 100000 in
set_option maxHeartbeats 8000000 in
theorem cls_any (b : Int) (w : World) (_hb0 : 0 ≤ b) (_hb1 : b ≤ 255) :
    Calls Tryd.prog 86 #[.int .i64 b] w fun e w' => e = .returned (.int .i64 (Pl.cls b)) ∧ w = w' := by
  go_enter Tryd.func86, Tryd.ntmps86
  go_wp2
  all_goals
    go_ret
    refine ⟨ret_int ?_, rfl⟩
    try simp only [beq_iff_eq, beq_eq_false_iff_ne] at *
    unfold Pl.cls
    repeat (first | rw [if_neg (by omega)] | rw [if_pos (by omega)])
    try omega
end Go.Proofs.YtefohnbmifblkaaDoor
