/-
  The walk of decode.Step in latin.
-/
import Derived.Test.YtefohnbmifblkabDoorDcV
import Derived.Test.YtefohnbmifblkabDoorDcV3
import Derived.Test.YtefohnbmifblkabDoorDcV5
import Derived.Test.YtefohnbmifblkabDoorDcV6
namespace Go.Proofs.YtefohnbmifblkabDoor
open Go.RowKit
open Pl (St st0 byte dOk)

set_option maxRecDepth 100000 in
set_option maxHeartbeats 4000000 in
theorem step_4 (s : St) (c : UInt8) (w : World) (hok : dOk 4 s) :
    Calls Tryd.prog 60 #[.int .i64 4, stV s, .int .i64 (c.toNat : Int)] w fun e w' => AnsS w (Pl.dStep 4 s c).1 (Pl.dStep 4 s c).2 e w' := by
  have HD := Lib.hid hok
  clear hok
  obtain ⟨b, hb⟩ : ∃ b : Nat, c.toNat = b := ⟨_, rfl⟩
  have hb2 : (b : Int) ≤ 255 := by have := c.toNat_lt; omega
  have HB := Lib.hid hb
  rw [hb]
  clear hb
  unfold stV
  go_enter Tryd.func60, Tryd.ntmps60
  go_wp2_with fail
  refine (good_any 4 s _ HD.out).mono ?_
  rintro e1 w1 ⟨rfl, hb1⟩
  have T1 : Two w (stCells s) (stCells st0) 83 w1 := Two.of (hb1.mono (by simp))
  have HT := Lib.hid T1
  clear hb1 T1
  go_wp2_with fail
  go_loopw [9, 34] (fun v i wr => ∃ (j : Nat) (st : St) (l : List Int), i = .int .i64 j ∧ j ≤ 3 ∧ Hid (dOk 4 st) ∧ Hid (Pl.dTake 4 c (3 - j) st l = Pl.dStep 4 s c) ∧ Hid (l.length ≤ 2 * j) ∧ Hid (Mid w (stCells st) (stCells st0) l v wr)) (fun _ i _ => 3 - (intOf i).toNat)
  case atStart => exact ⟨0, s, [], rfl, by omega, HD, Lib.hid rfl, Lib.hid (by simp), Lib.hid ⟨HT.out, World.ownsRow_nil _ _ _ _⟩⟩
  case round =>
    obtain ⟨j, st, l, rfl, hj, HK, HR, HL, HM⟩ := hrel
    obtain ⟨fx, fy, fz, fw⟩ := HM.out.two.cells
    simp only [stCells] at fx
    have hs := HM.out.two.size
    by_cases hlt : j < 3
    · have hlat := latin_any c
      rw [HB.out] at hlat
      have HC := Lib.hid hlat
      clear hlat
      have HOl : Hid ((1 : Nat) ≤ 2) := Lib.hid (by omega)
      go_wp2_with fail
      refine (HC.out _).mono ?_
      rintro e2 w2 ⟨rfl, hd2⟩
      have hb2' : Below wr.heap.size wr w2 := hd2.below
      have HB2 := Lib.hid hb2'
      have hs2 := hb2'.size
      clear hd2 hb2' fx fy fz fw
      go_wp2_with (first
        | (at_builtin
           with_reducible refine gate_append ?_
           refine wpList_app (by rfl) _ _ (by rfl) (w.heap.size + 2) wr.heap.size _ _ l.length 1 (ints l) [.int .i64 (Pl.dLatin c)] (by rfl) (by rfl) ?g1 (own_lone (by omega) (heap_at (by rfl))) (lone_one _) ?g3 ?g4 ?g5
           case g1 => exact (own_below HM.out.own HB2.out (Nat.le_refl _)).alloc _
           case g3 => (have := HL.out; omega)
           case g4 => (simp; try omega)
           intro v3 w3 HA3
           have hM3 := Mid.grow (l2 := [Pl.dLatin c]) HM.out (HB2.out.alloc (by omega) _) HA3
           have HM3 := Lib.hid hM3
           obtain ⟨fx3, fy3, fz3, fw3⟩ := hM3.two.cells
           simp only [stCells] at fx3 fy3
           have hs3 := hM3.two.size
           clear HA3 hM3))
      refine bodyPost_ret (by simp [results, Tryd.results60, go_sem, fy3]; rfl) rfl ?_
      have hR := take_no hlt HR.out (show Pl.dOne 4 st c = (st, [Pl.dLatin c], false) from rfl)
      have hM3 := HM3.out
      have hA := ansS_of (s0 := (Pl.dStep 4 s c).1) (l0 := (Pl.dStep 4 s c).2) (by rw [hR]) (by rw [hR]) hM3
      exact hA
    · have hj3 : j = 3 := by omega
      subst hj3
      simp only [stCells] at fy
      go_wp2_with fail
      refine bodyPost_ret (by simp [results, Tryd.results60, go_sem, fy]; rfl) rfl ?_
      have hR := HR.out
      have hR : (st, l) = Pl.dStep 4 s c := hR
      have hM := HM.out
      have hA := ansS_of (s0 := (Pl.dStep 4 s c).1) (l0 := (Pl.dStep 4 s c).2) (by rw [← hR]) (by rw [← hR]) hM
      exact hA

theorem step_any (e : Int) (s : St) (c : UInt8) (w : World) (hok : dOk e s) :
    Calls Tryd.prog 60 #[.int .i64 e, stV s, .int .i64 (c.toNat : Int)] w fun x w' => AnsS w (Pl.dStep e s c).1 (Pl.dStep e s c).2 x w' := by
  have he : e = 1 ∨ e = 2 ∨ e = 3 ∨ e = 4 ∨ e = 5 ∨ e = 6 := by unfold dOk at hok; omega
  rcases he with rfl | rfl | rfl | rfl | rfl | rfl
  · exact step_1 s c w hok
  · exact step_2 s c w hok
  · exact step_3 s c w hok
  · exact step_4 s c w hok
  · exact step_5 s c w hok
  · exact step_6 s c w hok
end Go.Proofs.YtefohnbmifblkabDoor
