/-
  The walks of decode.twin behind a lead, and of decode.latin.
-/
import Derived.Test.YtefohnbmifblkabDoorDcA
namespace Go.Proofs.YtefohnbmifblkabDoor
open Go.RowKit
open Pl (St st0 byte)

set_option maxRecDepth 100000 in
set_option maxHeartbeats 4000000 in
theorem twin_kept (l c : UInt8) (w : World) (h0 : 129 ≤ l.toNat) (h1 : l.toNat ≤ 159) :
    Calls Tryd.prog 70 #[stV ⟨0, 0, 0, 0, [l], 0, 0⟩, .int .i64 (c.toNat : Int)] w fun e w' => Ans w (Pl.dTwin ⟨0, 0, 0, 0, [l], 0, 0⟩ c) e w' := by
  obtain ⟨b, hb⟩ : ∃ b : Nat, c.toNat = b := ⟨_, rfl⟩
  have hb2 : (b : Int) ≤ 255 := by have := c.toNat_lt; omega
  have HB := Lib.hid hb
  rw [hb]
  clear hb
  unfold stV
  obtain ⟨k, hk⟩ : ∃ k : Nat, l.toNat = k := ⟨_, rfl⟩
  have hix := str_first l k hk
  rw [hk] at h0 h1
  have HK := Lib.hid hk
  clear hk
  have hk0 : (129 : Int) ≤ k := by omega
  have hk1 : (k : Int) ≤ 159 := by omega
  go_enter Tryd.func70, Tryd.ntmps70
  go_wp2_with fail
  all_goals
    refine bodyPost_ret (by simp [results, Tryd.results70, go_sem]; rfl) rfl ?_
    first
      | refine ans_nil ?_ ?_
      | refine ans_one ?_ (by omega) (heap_at (by simp)) ?_
    · have hc := HB.out
      simp only at *
      unfold Pl.dTwin byte
      rw [hc]
      dsimp only
      rw [HK.out]
      repeat (first | rw [if_neg (by omega)] | rw [if_pos (by omega)])
      first | done | rfl | exact congrArg (Prod.mk _) (congrArg (Prod.mk _) (decide_eq_true (by omega))) | exact congrArg (Prod.mk _) (congrArg (Prod.mk _) (decide_eq_decide.2 (by omega)))
    · repeat (first | exact Below.refl _ _ | refine Below.alloc ?_ (by simp; try omega) _ | refine Below.setCell ?_ (by simp; try omega) _)

set_option maxRecDepth 100000 in
set_option maxHeartbeats 4000000 in
theorem latin_any (c : UInt8) (w : World) :
    Calls Tryd.prog 71 #[.int .i64 (c.toNat : Int)] w fun e w' => e = .returned (.int .i64 (Pl.dLatin c)) ∧ Drew w w' := by
  obtain ⟨b, hb⟩ : ∃ b : Nat, c.toNat = b := ⟨_, rfl⟩
  have hb2 : (b : Int) ≤ 255 := by have := c.toNat_lt; omega
  have HB := Lib.hid hb
  rw [hb]
  clear hb
  go_enter Tryd.func71, Tryd.ntmps71
  go_wp2_with fail
  all_goals
    go_ret
    refine ⟨ret_int ?_, by first | exact Drew.refl _ | exact ⟨_, rfl⟩⟩
    have hc := HB.out
    try simp only [beq_iff_eq, beq_eq_false_iff_ne] at *
    unfold Pl.dLatin Pl.byte
    rw [hc]
    repeat (first | rw [if_neg (by omega)] | rw [if_pos (by omega)])
end Go.Proofs.YtefohnbmifblkabDoor
