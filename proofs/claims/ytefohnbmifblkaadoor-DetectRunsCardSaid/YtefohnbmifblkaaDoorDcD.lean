/-
  The walks of decode.shift behind two kept bytes.
-/
import Derived.Test.YtefohnbmifblkaaDoorDcC
namespace Go.Proofs.YtefohnbmifblkaaDoor
open Go.RowKit
open Pl (St st0 byte)

set_option maxRecDepth 100000 in
set_option maxHeartbeats 4000000 in
theorem shift_two0 (c : UInt8) (w : World) :
    Calls Tryd.prog 110 #[stV ⟨0, 0, 0, 0, [27, 40], 0, 0⟩, .int .i64 (c.toNat : Int)] w fun e w' => Ans w (Pl.dShift ⟨0, 0, 0, 0, [27, 40], 0, 0⟩ c) e w' := by
  obtain ⟨b, hb⟩ : ∃ b : Nat, c.toNat = b := ⟨_, rfl⟩
  have hb2 : (b : Int) ≤ 255 := by have := c.toNat_lt; omega
  have HB := Lib.hid hb
  rw [hb]
  clear hb
  unfold stV
  have hix : ∀ h : 0 < (⟨#[27, 40]⟩ : ByteArray).size, ((⟨#[27, 40]⟩ : ByteArray)[0]'h).toNat = 27 := fun _ => rfl
  have hix1 : ∀ h : 1 < (⟨#[27, 40]⟩ : ByteArray).size, ((⟨#[27, 40]⟩ : ByteArray)[1]'h).toNat = 40 := fun _ => rfl
  go_enter Tryd.func110, Tryd.ntmps110
  go_wp2_with (first
    | (at_builtin
       refine wpList_app (by rfl) _ _ (by rfl) (w.heap.size + 1 + 1) (w.heap.size + 1 + 1) _ _ 1 1 [.int .i64 (-1)] _ (by rfl) (by rfl) (own_lone (Nat.le_refl _) (heap_at2 (by simp))) (own_lone (by omega) (heap_at (by simp))) (lone_one _) (by omega) (by simp; try omega) ?_
       intro v' w1 HA
       have L := app_two2 HA (own_lone (Nat.le_refl _) (heap_at2 (by simp)))
       have HO := Lib.hid HA.own
       obtain ⟨fx, fy, fz, fw⟩ := L.cells
       have HL := Lib.hid L.below
       clear HA L))
  all_goals
    refine bodyPost_ret (by first | (simp [results, Tryd.results110, go_sem]; rfl) | (simp [results, Tryd.results110, go_sem, fy]; rfl)) rfl ?_
    first
      | refine ans_nil ?_ ?_
      | refine ans_one ?_ (by omega) (heap_at (by simp)) ?_
      | refine ans_one ?_ (by omega) (heap_at2 (by simp)) ?_
      | refine ans_app1 HO.out ?_ ?_ ?_
      | refine ans_app2 HO.out ?_ ?_ ?_
    all_goals first
      | ((repeat (refine own_set ?_ _ (by simp; try omega) _)); with_reducible exact HO.out)
      | ((repeat (first | with_reducible exact HL.out | with_reducible exact Below.refl _ _ | refine Below.setCell ?_ (by simp; try omega) _ | refine Below.alloc ?_ (by simp; try omega) _)); done)
      | skip
    have hc := HB.out
    try simp only [beq_iff_eq, beq_eq_false_iff_ne] at *
    rw [Pl.shift_two0]
    rw [hc]
    repeat (first | rw [if_neg (by omega)] | rw [if_pos (by omega)])
    try rfl

set_option maxRecDepth 100000 in
set_option maxHeartbeats 4000000 in
theorem shift_two1 (c : UInt8) (w : World) :
    Calls Tryd.prog 110 #[stV ⟨0, 0, 0, 0, [27, 40], 0, 1⟩, .int .i64 (c.toNat : Int)] w fun e w' => Ans w (Pl.dShift ⟨0, 0, 0, 0, [27, 40], 0, 1⟩ c) e w' := by
  obtain ⟨b, hb⟩ : ∃ b : Nat, c.toNat = b := ⟨_, rfl⟩
  have hb2 : (b : Int) ≤ 255 := by have := c.toNat_lt; omega
  have HB := Lib.hid hb
  rw [hb]
  clear hb
  unfold stV
  have hix : ∀ h : 0 < (⟨#[27, 40]⟩ : ByteArray).size, ((⟨#[27, 40]⟩ : ByteArray)[0]'h).toNat = 27 := fun _ => rfl
  have hix1 : ∀ h : 1 < (⟨#[27, 40]⟩ : ByteArray).size, ((⟨#[27, 40]⟩ : ByteArray)[1]'h).toNat = 40 := fun _ => rfl
  have hcv := conv_kept 40 40 rfl w
  rw [show ((40 : Nat) : Int) = 40 from rfl] at hcv
  go_enter Tryd.func110, Tryd.ntmps110
  go_wp2_with fail
  all_goals
    refine bodyPost_ret (by first | (simp [results, Tryd.results110, go_sem]; rfl) | (simp [results, Tryd.results110, go_sem, fx, fy]; rfl)) rfl ?_
    first
      | refine ans_nil ?_ ?_
      | refine ans_one ?_ (by omega) (heap_at (by simp)) ?_
      | refine ans_one ?_ (by omega) (heap_at2 (by simp)) ?_
      | refine ans_app1 HO.out ?_ ?_ ?_
      | refine ans_app2 HO.out ?_ ?_ ?_
    all_goals first
      | ((repeat (refine own_set ?_ _ (by simp; try omega) _)); with_reducible exact HO.out)
      | ((repeat (first | with_reducible exact HL.out | with_reducible exact Below.refl _ _ | refine Below.setCell ?_ (by simp; try omega) _ | refine Below.alloc ?_ (by simp; try omega) _)); done)
      | skip
    have hc := HB.out
    try simp only [beq_iff_eq, beq_eq_false_iff_ne] at *
    rw [Pl.shift_two1]
    rw [hc]
    repeat (first | rw [if_neg (by omega)] | rw [if_pos (by omega)])
    try rfl

set_option maxRecDepth 100000 in
set_option maxHeartbeats 4000000 in
theorem shift_dol0 (c : UInt8) (w : World) :
    Calls Tryd.prog 110 #[stV ⟨0, 0, 0, 0, [27, 36], 0, 0⟩, .int .i64 (c.toNat : Int)] w fun e w' => Ans w (Pl.dShift ⟨0, 0, 0, 0, [27, 36], 0, 0⟩ c) e w' := by
  obtain ⟨b, hb⟩ : ∃ b : Nat, c.toNat = b := ⟨_, rfl⟩
  have hb2 : (b : Int) ≤ 255 := by have := c.toNat_lt; omega
  have HB := Lib.hid hb
  rw [hb]
  clear hb
  unfold stV
  have hix : ∀ h : 0 < (⟨#[27, 36]⟩ : ByteArray).size, ((⟨#[27, 36]⟩ : ByteArray)[0]'h).toNat = 27 := fun _ => rfl
  have hix1 : ∀ h : 1 < (⟨#[27, 36]⟩ : ByteArray).size, ((⟨#[27, 36]⟩ : ByteArray)[1]'h).toNat = 36 := fun _ => rfl
  go_enter Tryd.func110, Tryd.ntmps110
  go_wp2_with (first
    | (at_builtin
       refine wpList_app (by rfl) _ _ (by rfl) (w.heap.size + 1 + 1) (w.heap.size + 1 + 1) _ _ 1 1 [.int .i64 (-1)] _ (by rfl) (by rfl) (own_lone (Nat.le_refl _) (heap_at2 (by simp))) (own_lone (by omega) (heap_at (by simp))) (lone_one _) (by omega) (by simp; try omega) ?_
       intro v' w1 HA
       have L := app_two2 HA (own_lone (Nat.le_refl _) (heap_at2 (by simp)))
       have HO := Lib.hid HA.own
       obtain ⟨fx, fy, fz, fw⟩ := L.cells
       have HL := Lib.hid L.below
       clear HA L))
  all_goals
    refine bodyPost_ret (by first | (simp [results, Tryd.results110, go_sem]; rfl) | (simp [results, Tryd.results110, go_sem, fy]; rfl)) rfl ?_
    first
      | refine ans_nil ?_ ?_
      | refine ans_one ?_ (by omega) (heap_at (by simp)) ?_
      | refine ans_one ?_ (by omega) (heap_at2 (by simp)) ?_
      | refine ans_app1 HO.out ?_ ?_ ?_
      | refine ans_app2 HO.out ?_ ?_ ?_
    all_goals first
      | ((repeat (refine own_set ?_ _ (by simp; try omega) _)); with_reducible exact HO.out)
      | ((repeat (first | with_reducible exact HL.out | with_reducible exact Below.refl _ _ | refine Below.setCell ?_ (by simp; try omega) _ | refine Below.alloc ?_ (by simp; try omega) _)); done)
      | skip
    have hc := HB.out
    try simp only [beq_iff_eq, beq_eq_false_iff_ne] at *
    rw [Pl.shift_dol0]
    rw [hc]
    repeat (first | rw [if_neg (by omega)] | rw [if_pos (by omega)])
    try rfl

set_option maxRecDepth 100000 in
set_option maxHeartbeats 4000000 in
theorem shift_dol1 (c : UInt8) (w : World) :
    Calls Tryd.prog 110 #[stV ⟨0, 0, 0, 0, [27, 36], 0, 1⟩, .int .i64 (c.toNat : Int)] w fun e w' => Ans w (Pl.dShift ⟨0, 0, 0, 0, [27, 36], 0, 1⟩ c) e w' := by
  obtain ⟨b, hb⟩ : ∃ b : Nat, c.toNat = b := ⟨_, rfl⟩
  have hb2 : (b : Int) ≤ 255 := by have := c.toNat_lt; omega
  have HB := Lib.hid hb
  rw [hb]
  clear hb
  unfold stV
  have hix : ∀ h : 0 < (⟨#[27, 36]⟩ : ByteArray).size, ((⟨#[27, 36]⟩ : ByteArray)[0]'h).toNat = 27 := fun _ => rfl
  have hix1 : ∀ h : 1 < (⟨#[27, 36]⟩ : ByteArray).size, ((⟨#[27, 36]⟩ : ByteArray)[1]'h).toNat = 36 := fun _ => rfl
  have hcv := conv_kept 36 36 rfl w
  rw [show ((36 : Nat) : Int) = 36 from rfl] at hcv
  go_enter Tryd.func110, Tryd.ntmps110
  go_wp2_with fail
  all_goals
    refine bodyPost_ret (by first | (simp [results, Tryd.results110, go_sem]; rfl) | (simp [results, Tryd.results110, go_sem, fx, fy]; rfl)) rfl ?_
    first
      | refine ans_nil ?_ ?_
      | refine ans_one ?_ (by omega) (heap_at (by simp)) ?_
      | refine ans_one ?_ (by omega) (heap_at2 (by simp)) ?_
      | refine ans_app1 HO.out ?_ ?_ ?_
      | refine ans_app2 HO.out ?_ ?_ ?_
    all_goals first
      | ((repeat (refine own_set ?_ _ (by simp; try omega) _)); with_reducible exact HO.out)
      | ((repeat (first | with_reducible exact HL.out | with_reducible exact Below.refl _ _ | refine Below.setCell ?_ (by simp; try omega) _ | refine Below.alloc ?_ (by simp; try omega) _)); done)
      | skip
    have hc := HB.out
    try simp only [beq_iff_eq, beq_eq_false_iff_ne] at *
    rw [Pl.shift_dol1]
    rw [hc]
    repeat (first | rw [if_neg (by omega)] | rw [if_pos (by omega)])
    try rfl
end Go.Proofs.YtefohnbmifblkaaDoor
