/-
  The walk of the references' BestOf: it tells the program's best.
-/
import Derived.Test.YtefohnbmifblkaaDoorRfX
import Derived.Test.YtefohnbmifblkaaDoorRfE
import Derived.Test.YtefohnbmifblkaaDoorJdB
import Derived.BigQuiet
namespace Go.Proofs.YtefohnbmifblkaaDoor
open Go.RowKit

theorem getD_at (l : List UInt8) (i : Nat) (h : i < l.length) : l.getD i 0 = l[i] := by simp [List.getD, h]

set_option maxRecDepth 100000 in
set_option maxHeartbeats 4000000 in
theorem bestOf_any (s : ByteArray) (w : World) (hs : s.size ≤ 4000) :
    Calls Tryd.prog 54 #[.string s] w fun x w' => x = .returned (.int .i64 (best s.data.toList : Nat)) ∧ Below w.heap.size w w' := by
  have hs2 : (s.size : Int) ≤ 4000 := by omega
  have hsl : s.data.toList.length = s.size := by simp
  obtain ⟨l, hl⟩ : ∃ l, s.data.toList = l := ⟨_, rfl⟩
  have HL := Lib.hid hl
  have HS := Lib.hid hs
  obtain ⟨B, hB⟩ : ∃ B, best l = B := ⟨_, rfl⟩
  have HBe : Hid (bestTo (feedSc (fun _ => 0) (-1) l).1 6 = B) := Lib.hid hB
  rw [hl] at hsl
  have HLen := Lib.hid hsl
  rw [hl, hB]
  clear hl hB hsl hs
  go_enter Tryd.func54, Tryd.ntmps54
  go_wp2_with fail
  go_loopw [3, 4, 5] (fun bv mv ev wr => ∃ (j m : Nat) (x : Int), j ≤ 6 ∧ m ≤ j ∧ bv = .int .i64 (m : Int) ∧ mv = .int .i64 x ∧ ev = .int .i64 ((j + 1 : Nat) : Int) ∧ Hid (bestTo (feedSc (fun _ => 0) (-1) l).1 j = m) ∧ Hid (m ≠ 0 → x = wTo (m : Int) l (l.length - 1)) ∧ Hid (Below w.heap.size w wr)) (fun _ _ ev _ => 8 - (intOf ev).toNat)
  case atStart => exact ⟨0, 0, 0, by omega, by omega, rfl, rfl, rfl, Lib.hid rfl, Lib.hid fun h => absurd rfl h, Lib.hid (Below.refl _ _)⟩
  case round =>
    obtain ⟨j, m, x, hj, hmj, rfl, rfl, rfl, HBt, HX, HB⟩ := hrel
    by_cases hj6 : j < 6
    · obtain ⟨k, hk⟩ : ∃ k, j + 1 = k := ⟨_, rfl⟩
      have hk6 : k ≤ 6 := by omega
      have hk1 : 1 ≤ k := by omega
      have hmk : m ≤ k := by omega
      have HSt := Lib.hid (best_step l j m HBt.out)
      rw [hk] at HSt ⊢
      have HK := Lib.hid hk
      have i1 : (k : Int) ≤ 6 := by omega
      have i0 : 1 ≤ (k : Int) := by omega
      clear hk
      go_wp2_with fail
      go_loopw [6, 7] (fun sv iv wi => ∃ i : Nat, sv = .int .i64 (wTo (k : Int) l i) ∧ iv = .int .i64 ((i + 1 : Nat) : Int) ∧ (i = 0 ∨ i + 1 ≤ s.size) ∧ Hid (Below w.heap.size w wi)) (fun _ iv _ => 5000 - (intOf iv).toNat)
      case atStart => exact ⟨0, rfl, rfl, by omega, HB⟩
      case round =>
        obtain ⟨i, rfl, rfl, hi, HBi⟩ := hrel
        have hwb := wTo_bound (k : Int) l i
        obtain ⟨hwb0, hwb1⟩ := hwb
        by_cases hlt : i + 1 < s.size
        · have hl0 : i < l.length := by rw [HLen.out]; omega
          have hl1 : i + 1 < l.length := by rw [HLen.out]; omega
          obtain ⟨c0, hc0⟩ : ∃ c, l.getD i 0 = c := ⟨_, rfl⟩
          obtain ⟨c1, hc1⟩ : ∃ c, l.getD (i + 1) 0 = c := ⟨_, rfl⟩
          obtain ⟨y0, hy0⟩ : ∃ y : Nat, c0.toNat = y := ⟨_, rfl⟩
          obtain ⟨y1, hy1⟩ : ∃ y : Nat, c1.toNat = y := ⟨_, rfl⟩
          have hix0 : ∀ h : i < s.size, (s[i]'h).toNat = y0 := fun h => by
            rw [← hy0, ← hc0, ← HL.out]
            have h' : i < s.data.toList.length := by simpa using h
            rw [getD_at _ _ h']
            rfl
          have hix1 : ∀ h : i + 1 < s.size, (s[i + 1]'h).toNat = y1 := fun h => by
            rw [← hy1, ← hc1, ← HL.out]
            have h' : i + 1 < s.data.toList.length := by simpa using h
            rw [getD_at _ _ h']
            rfl
          have hy02 : (y0 : Int) ≤ 255 := by have := c0.toNat_lt; omega
          have hy12 : (y1 : Int) ≤ 255 := by have := c1.toNat_lt; omega
          have hwb0' : IntKind.i64.wrap (y0 : Int) = (y0 : Int) := by rw [IntKind.wrap_i64]; omega
          have hwb1' : IntKind.i64.wrap (y1 : Int) = (y1 : Int) := by rw [IntKind.wrap_i64]; omega
          obtain ⟨W0, hW0⟩ : ∃ W, wTo (k : Int) l i = W := ⟨_, rfl⟩
          obtain ⟨V, hV⟩ : ∃ V, Pl.weight (k : Int) (y0 : Int) (y1 : Int) = V := ⟨_, rfl⟩
          have HWn := Lib.hid (show wTo (k : Int) l (i + 1) = W0 + V by rw [wTo, hW0, hc0, hc1, ← hV, ← hy0, ← hy1]; rfl)
          have hvb := Pl.wgt_range (k : Int) (y0 : Int) (y1 : Int) (Pl.cls (y0 : Int)) (Pl.cls (y1 : Int))
          have HW : Hid (∀ W : World, Calls Tryd.prog 68 #[.int .i64 (k : Int), .int .i64 (y0 : Int), .int .i64 (y1 : Int)] W fun e w' => e = .returned (.int .i64 V) ∧ W = w') := Lib.hid fun W => by
            rw [← hV]
            exact weightOf_any (k : Int) (y0 : Int) (y1 : Int) W i0 i1 (by omega) hy02 (by omega) hy12
          rw [show Pl.wgt (k : Int) (y0 : Int) (y1 : Int) (Pl.cls (y0 : Int)) (Pl.cls (y1 : Int)) = V from hV] at hvb
          obtain ⟨hv0, hv1⟩ := hvb
          rw [hW0] at hwb0 hwb1 ⊢
          have hsum : IntKind.i64.wrap (W0 + V) = W0 + V := by rw [IntKind.wrap_i64]; omega
          clear hc0 hc1 hy0 hy1 hW0 hV
          have q1 : ((i + 1 : Nat) : Int) < (s.size : Int) := by omega
          have q0 : (0 : Int) ≤ ((i + 1 : Nat) : Int) := by omega
          have q2 : IntKind.i64.wrap (((i + 1 : Nat) : Int) - 1) = (i : Int) := by rw [IntKind.wrap_i64]; omega
          have q3 : (i : Int) < (s.size : Int) := by omega
          have q4 : (0 : Int) ≤ (i : Int) := by omega
          go_wp2_with fail
          go_quiet ((go_at_call 68; exact quiet_left (HW.out _)))
          go_wp2_with fail
          go_roundw
          case rel => exact ⟨i + 1, by rw [HWn.out], by go_num, by omega, Lib.hid (HBi.out.trans ((below_drewN (Below.refl _ _) _).mono HBi.out.size))⟩
          case measure => simp [intOf]; omega
        · have hlast : i = l.length - 1 := by rw [HLen.out]; omega
          have q1 : ¬ ((i + 1 : Nat) : Int) < (s.size : Int) := by omega
          obtain ⟨W0, hW0⟩ : ∃ W, wTo (k : Int) l i = W := ⟨_, rfl⟩
          rw [hW0] at hwb0 hwb1 ⊢
          rw [← hlast] at HSt
          rw [hW0] at HSt
          have HW0 := Lib.hid hW0
          have HLast := Lib.hid hlast
          clear hW0 hlast
          have HRi : Hid (∀ W : World, Calls Tryd.prog 69 #[.int .i64 (k : Int), .string s] W fun e w' => e = .returned (.bool (rgt (k : Int) l)) ∧ Below W.heap.size W w') := Lib.hid fun W => by
            rw [← HL.out]
            exact right_any (k : Int) s W ⟨i0, i1⟩ HS.out
          obtain ⟨G, hG⟩ : ∃ G, rgt (k : Int) l = G := ⟨_, rfl⟩
          rw [hG] at HSt HRi
          clear hG
          cases G
          · have HSt2 := Lib.hid (show bestTo (feedSc (fun _ => 0) (-1) l).1 k = m from HSt.out.trans (if_neg (by simp)))
            clear HSt
            go_wp2_with fail
            refine (HRi.out _).mono ?_
            rintro x1 w1 ⟨rfl, hb1⟩
            have HB1 := Lib.hid (bthen HBi.out hb1)
            clear hb1
            go_wp2_with fail
            go_roundw
            case rel => exact ⟨k, m, x, hk6, by omega, rfl, rfl, by go_num, HSt2, HX, HB1⟩
            case measure => simp [intOf]; omega
          · by_cases hm0 : m = 0
            · subst hm0
              have HSt2 := Lib.hid (show bestTo (feedSc (fun _ => 0) (-1) l).1 k = k from HSt.out.trans (if_pos ⟨rfl, .inl rfl⟩))
              clear HSt
              go_wp2_with fail
              refine (HRi.out _).mono ?_
              rintro x1 w1 ⟨rfl, hb1⟩
              have HB1 := Lib.hid (bthen HBi.out hb1)
              clear hb1
              go_wp2_with fail
              go_roundw
              case rel => exact ⟨k, k, W0, hk6, by omega, rfl, rfl, by go_num, HSt2, Lib.hid fun _ => by rw [← HLast.out, HW0.out], HB1⟩
              case measure => simp [intOf]; omega
            · have hmb : ((m : Int) == 0) = false := by rw [beq_eq_false_iff_ne]; omega
              have hxe := HX.out hm0
              by_cases hgt : x < W0
              · have HSt2 := Lib.hid (show bestTo (feedSc (fun _ => 0) (-1) l).1 k = k from HSt.out.trans (if_pos ⟨rfl, .inr (by rw [HLast.out, ← hxe]; exact hgt)⟩))
                clear HSt hxe
                go_wp2_with fail
                refine (HRi.out _).mono ?_
                rintro x1 w1 ⟨rfl, hb1⟩
                have HB1 := Lib.hid (bthen HBi.out hb1)
                clear hb1
                go_wp2_with fail
                go_roundw
                case rel => exact ⟨k, k, W0, hk6, by omega, rfl, rfl, by go_num, HSt2, Lib.hid fun _ => by rw [← HLast.out, HW0.out], HB1⟩
                case measure => simp [intOf]; omega
              · have HSt2 := Lib.hid (show bestTo (feedSc (fun _ => 0) (-1) l).1 k = m from HSt.out.trans (if_neg (by
                  rintro ⟨_, h | h⟩
                  · exact hm0 h
                  · rw [HLast.out, ← hxe] at h
                    exact hgt h)))
                clear HSt hxe
                go_wp2_with fail
                refine (HRi.out _).mono ?_
                rintro x1 w1 ⟨rfl, hb1⟩
                have HB1 := Lib.hid (bthen HBi.out hb1)
                clear hb1
                go_wp2_with fail
                go_roundw
                case rel => exact ⟨k, m, x, hk6, by omega, rfl, rfl, by go_num, HSt2, HX, HB1⟩
                case measure => simp [intOf]; omega
    · have hj2 : j = 6 := by omega
      subst hj2
      have HF := Lib.hid (show m = B by rw [← HBt.out, HBe.out])
      go_wp2_with fail
      go_ret
      exact ⟨ret_int (congrArg Nat.cast HF.out), HB.out⟩
end Go.Proofs.YtefohnbmifblkaaDoor
