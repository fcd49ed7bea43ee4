/-
  The walks of decode.shift, state by state.
-/
import Derived.Test.YtefohnbmifblkaaDoorDcA
import Derived.Test.YtefohnbmifblkaaDoorPlD
import Derived.Test.YtefohnbmifblkaaDoorApp
namespace Go.Proofs.YtefohnbmifblkaaDoor
open Go.RowKit
open Pl (St st0 byte)

set_option maxRecDepth 100000 in
set_option maxHeartbeats 4000000 in
theorem shift_nil0 (c : UInt8) (w : World) :
    Calls Tryd.prog 110 #[stV ⟨0, 0, 0, 0, [], 0, 0⟩, .int .i64 (c.toNat : Int)] w fun e w' => Ans w (Pl.dShift ⟨0, 0, 0, 0, [], 0, 0⟩ c) e w' := by
  obtain ⟨b, hb⟩ : ∃ b : Nat, c.toNat = b := ⟨_, rfl⟩
  have hb2 : (b : Int) ≤ 255 := by have := c.toNat_lt; omega
  have HB := Lib.hid hb
  rw [hb]
  clear hb
  unfold stV
  go_enter Tryd.func110, Tryd.ntmps110
  go_wp2_with fail
  all_goals
    refine bodyPost_ret (by simp [results, Tryd.results110, go_sem]; rfl) rfl ?_
    first
      | refine ans_nil ?_ ?_
      | refine ans_one ?_ (by omega) (heap_at (by simp)) ?_
    · have hc := HB.out
      try simp only [beq_iff_eq, beq_eq_false_iff_ne] at *
      rw [Pl.shift_nil0]
      try unfold byte
      rw [hc]
      repeat (first | rw [if_neg (by omega)] | rw [if_pos (by omega)])
      try rfl
    · repeat (first | exact Below.refl _ _ | refine Below.alloc ?_ (by simp; try omega) _ | refine Below.setCell ?_ (by simp; try omega) _)

set_option maxRecDepth 100000 in
set_option maxHeartbeats 4000000 in
theorem shift_nil1 (c : UInt8) (w : World) :
    Calls Tryd.prog 110 #[stV ⟨0, 0, 0, 0, [], 0, 1⟩, .int .i64 (c.toNat : Int)] w fun e w' => Ans w (Pl.dShift ⟨0, 0, 0, 0, [], 0, 1⟩ c) e w' := by
  obtain ⟨b, hb⟩ : ∃ b : Nat, c.toNat = b := ⟨_, rfl⟩
  have hb2 : (b : Int) ≤ 255 := by have := c.toNat_lt; omega
  have HB := Lib.hid hb
  rw [hb]
  clear hb
  unfold stV
  have hcv := conv_one c b HB.out w
  go_enter Tryd.func110, Tryd.ntmps110
  go_wp2_with fail
  all_goals
    refine bodyPost_ret (by simp [results, Tryd.results110, go_sem]; rfl) rfl ?_
    first
      | refine ans_nil ?_ ?_
      | refine ans_one ?_ (by omega) (heap_at (by simp)) ?_
    · have hc := HB.out
      try simp only [beq_iff_eq, beq_eq_false_iff_ne] at *
      rw [Pl.shift_nil1]
      try unfold byte
      rw [hc]
      repeat (first | rw [if_neg (by omega)] | rw [if_pos (by omega)])
      try rfl
    · repeat (first | exact Below.refl _ _ | refine Below.alloc ?_ (by simp; try omega) _ | refine Below.setCell ?_ (by simp; try omega) _)

set_option maxRecDepth 100000 in
set_option maxHeartbeats 4000000 in
theorem shift_esc (m : Int) (c : UInt8) (w : World) :
    Calls Tryd.prog 110 #[stV ⟨0, 0, 0, 0, [27], 0, m⟩, .int .i64 (c.toNat : Int)] w fun e w' => Ans w (Pl.dShift ⟨0, 0, 0, 0, [27], 0, m⟩ c) e w' := by
  obtain ⟨b, hb⟩ : ∃ b : Nat, c.toNat = b := ⟨_, rfl⟩
  have hb2 : (b : Int) ≤ 255 := by have := c.toNat_lt; omega
  have HB := Lib.hid hb
  rw [hb]
  clear hb
  unfold stV
  have hix := str_first 27 27 rfl
  have hcat : (⟨#[27]⟩ ++ ⟨#[c]⟩ : ByteArray) = ⟨#[27, c]⟩ := by
    apply ByteArray.ext
    rw [ByteArray.data_append]
    rfl
  by_cases h40 : b = 40
  · subst h40
    have hcv := conv_one c 40 HB.out w
    rw [show ((40 : Nat) : Int) = 40 from rfl] at hcv
    go_enter Tryd.func110, Tryd.ntmps110
    go_wp2_with fail
    all_goals
      refine bodyPost_ret (by simp [results, Tryd.results110, go_sem]; rfl) rfl ?_
      first
        | refine ans_nil ?_ ?_
        | refine ans_one ?_ (by omega) (heap_at (by simp)) ?_
      · have hc := HB.out
        try simp only at *
        rw [Pl.shift_esc]
        try unfold byte
        rw [hc]
        repeat (first | rw [if_neg (by omega)] | rw [if_pos (by omega)])
        try rfl
      · repeat (first | exact Below.refl _ _ | refine Below.alloc ?_ (by simp; try omega) _ | refine Below.setCell ?_ (by simp; try omega) _)
  · have h41 : ¬ (b : Int) = 40 := by omega
    have hcv := conv_one c b HB.out w
    go_enter Tryd.func110, Tryd.ntmps110
    go_wp2_with fail
    all_goals
      refine bodyPost_ret (by simp [results, Tryd.results110, go_sem]; rfl) rfl ?_
      first
        | refine ans_nil ?_ ?_
        | refine ans_one ?_ (by omega) (heap_at (by simp)) ?_
      · have hc := HB.out
        try simp only [beq_iff_eq, beq_eq_false_iff_ne] at *
        rw [Pl.shift_esc]
        try unfold byte
        rw [hc]
        repeat (first | rw [if_neg (by omega)] | rw [if_pos (by omega)])
        try rfl
      · repeat (first | exact Below.refl _ _ | refine Below.alloc ?_ (by simp; try omega) _ | refine Below.setCell ?_ (by simp; try omega) _)

set_option maxRecDepth 100000 in
set_option maxHeartbeats 4000000 in
theorem shift_lead (l : UInt8) (h0 : 33 ≤ l.toNat) (h1 : l.toNat ≤ 126) (c : UInt8) (w : World) :
    Calls Tryd.prog 110 #[stV ⟨0, 0, 0, 0, [l], 0, 1⟩, .int .i64 (c.toNat : Int)] w fun e w' => Ans w (Pl.dShift ⟨0, 0, 0, 0, [l], 0, 1⟩ c) e w' := by
  obtain ⟨b, hb⟩ : ∃ b : Nat, c.toNat = b := ⟨_, rfl⟩
  have hb2 : (b : Int) ≤ 255 := by have := c.toNat_lt; omega
  have HB := Lib.hid hb
  rw [hb]
  clear hb
  unfold stV
  obtain ⟨k, hk⟩ : ∃ k : Nat, l.toNat = k := ⟨_, rfl⟩
  have hix := str_first l k hk
  have HL := Lib.hid h0
  rw [hk] at h0 h1
  have HK := Lib.hid hk
  clear hk
  have hk0 : (33 : Int) ≤ k := by omega
  have hk1 : (k : Int) ≤ 126 := by omega
  have hl : ¬ l = 27 := by
    rintro rfl
    exact absurd HL.out (by decide)
  have hl2 : (l == 27) = false := by simpa using hl
  go_enter Tryd.func110, Tryd.ntmps110
  go_wp2_with fail
  all_goals
    refine bodyPost_ret (by simp [results, Tryd.results110, go_sem]; rfl) rfl ?_
    first
      | refine ans_nil ?_ ?_
      | refine ans_one ?_ (by omega) (heap_at (by simp)) ?_
    · have hc := HB.out
      try simp only [beq_eq_false_iff_ne] at *
      rw [Pl.shift_lead l c HL.out]
      try unfold byte
      rw [hc]
      rw [HK.out]
      repeat (first | rw [if_neg (by omega)] | rw [if_pos (by omega)])
      try rfl
    · repeat (first | exact Below.refl _ _ | refine Below.alloc ?_ (by simp; try omega) _ | refine Below.setCell ?_ (by simp; try omega) _)
end Go.Proofs.YtefohnbmifblkaaDoor
