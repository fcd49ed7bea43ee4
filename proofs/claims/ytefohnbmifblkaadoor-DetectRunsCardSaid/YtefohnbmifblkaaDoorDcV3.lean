/-
  The walk of decode.Step in encoding 3.
-/
import Derived.Test.YtefohnbmifblkaaDoorDcS
namespace Go.Proofs.YtefohnbmifblkaaDoor
open Go.RowKit
open Pl (St st0 byte dOk)

set_option maxRecDepth 100000 in
set_option maxHeartbeats 4000000 in
theorem step_3 (s : St) (c : UInt8) (w : World) (hok : dOk 3 s) :
    Calls Tryd.prog 91 #[.int .i64 3, stV s, .int .i64 (c.toNat : Int)] w fun e w' => AnsS w (Pl.dStep 3 s c).1 (Pl.dStep 3 s c).2 e w' := by
  have HD := Lib.hid hok
  clear hok
  obtain ⟨b, hb⟩ : ∃ b : Nat, c.toNat = b := ⟨_, rfl⟩
  have hb2 : (b : Int) ≤ 255 := by have := c.toNat_lt; omega
  have HB := Lib.hid hb
  rw [hb]
  clear hb
  unfold stV
  go_enter Tryd.func91, Tryd.ntmps91
  go_wp2_with fail
  refine (good_any 3 s _ HD.out).mono ?_
  rintro e1 w1 ⟨rfl, hb1⟩
  have T1 : Two w (stCells s) (stCells st0) 92 w1 := Two.of (hb1.mono (by simp))
  have HT := Lib.hid T1
  clear hb1 T1
  go_wp2_with fail
  go_loopw [9, 34] (fun v i wr => ∃ (j : Nat) (st : St) (l : List Int), i = .int .i64 j ∧ j ≤ 3 ∧ Hid (dOk 3 st) ∧ Hid (Pl.dTake 3 c (3 - j) st l = Pl.dStep 3 s c) ∧ Hid (l.length ≤ 2 * j) ∧ Hid (Mid w (stCells st) (stCells st0) l v wr)) (fun _ i _ => 3 - (intOf i).toNat)
  case atStart => exact ⟨0, s, [], rfl, by omega, HD, Lib.hid rfl, Lib.hid (by simp), Lib.hid ⟨HT.out, World.ownsRow_nil _ _ _ _⟩⟩
  case round =>
    obtain ⟨j, st, l, rfl, hj, HK, HR, HL, HM⟩ := hrel
    obtain ⟨fx, fy, fz, fw⟩ := HM.out.two.cells
    simp only [stCells] at fx
    have hs := HM.out.two.size
    by_cases hlt : j < 3
    · obtain ⟨s', o, ag, hr⟩ : ∃ s' o ag, Pl.dOne 3 st c = (s', o, ag) := ⟨_, _, _, rfl⟩
      have HC : Hid (∀ W, Calls Tryd.prog 111 #[stV st, .int .i64 (b : Int)] W fun e w' => Ans W (s', o, ag) e w') := Lib.hid fun W => by
        have h := twin_any st c W HK.out
        rw [HB.out] at h
        rwa [show Pl.dTwin st c = (s', o, ag) from hr] at h
      have HO := Lib.hid hr
      have HK2 : Hid (dOk 3 s') := Lib.hid (by have := Pl.dOne_ok 3 st c HK.out; rwa [hr] at this)
      have HOl : Hid (o.length ≤ 2) := Lib.hid (by have := Pl.dOne_len 3 st c; rwa [hr] at this)
      clear hr
      cases ag
      · go_wp2_with fail
        refine (HC.out _).mono ?_
        rintro e2 w2 ⟨⟨v2, rfl, hown2⟩, hb2'⟩
        have HO2 := Lib.hid hown2
        have HB2 := Lib.hid hb2'
        have hs2 := hb2'.size
        obtain ⟨fx2, fy2, fz2, fw2⟩ := (show Two w (stCells st) (stCells st0) 92 w2 from ⟨bthen HM.out.two.below hb2', (hb2'.block _ (by omega)).trans HM.out.two.hx, (hb2'.block _ (by omega)).trans HM.out.two.hy, by omega⟩).cells
        simp only [stCells] at fx2
        clear hown2 hb2' fx fy fz fw
        simp only [stV]
        go_wp2_with (first
          | (at_builtin
             with_reducible refine gate_append ?_
             refine wpList_app (by rfl) _ _ (by rfl) (w.heap.size + 2) wr.heap.size _ _ l.length o.length (ints l) (ints o) (by rfl) (by rfl) ?g1 ?g2 (ints_one _) ?g3 ?g4 ?g5
             case g1 => ((repeat (refine own_set ?_ _ (by simp) _)); exact own_below HM.out.own HB2.out (Nat.le_refl _))
             case g2 => ((repeat (refine own_set ?_ _ (by simp; try omega) _)); exact HO2.out)
             case g3 => (have := HL.out; have := HOl.out; omega)
             case g4 => (simp [World.setCell]; try omega)
             intro v3 w3 HA3
             have hM3 := Mid.next (l2 := o) s'.need s'.code s'.fr s'.to ⟨s'.kept.toArray⟩ s'.half s'.mode HM.out rfl HB2.out HA3 rfl
             have HM3 : Hid (Mid w (stCells s') (stCells st0) (l ++ o) v3 w3) := Lib.hid hM3
             obtain ⟨fx3, fy3, fz3, fw3⟩ := hM3.two.cells
             simp only [stCells] at fy3
             have hs3 := hM3.two.size
             clear HA3 fx2 fy2 fz2 fw2 hM3))
        refine bodyPost_ret (by simp [results, Tryd.results91, go_sem, fy3]; rfl) rfl ?_
        have hR := take_no hlt HR.out HO.out
        have hM3 := HM3.out
        have hA := ansS_of (s0 := (Pl.dStep 3 s c).1) (l0 := (Pl.dStep 3 s c).2) (by rw [hR]) (by rw [hR]) hM3
        exact hA
      · go_wp2_with fail
        refine (HC.out _).mono ?_
        rintro e2 w2 ⟨⟨v2, rfl, hown2⟩, hb2'⟩
        have HO2 := Lib.hid hown2
        have HB2 := Lib.hid hb2'
        have hs2 := hb2'.size
        obtain ⟨fx2, fy2, fz2, fw2⟩ := (show Two w (stCells st) (stCells st0) 92 w2 from ⟨bthen HM.out.two.below hb2', (hb2'.block _ (by omega)).trans HM.out.two.hx, (hb2'.block _ (by omega)).trans HM.out.two.hy, by omega⟩).cells
        simp only [stCells] at fx2
        clear hown2 hb2' fx fy fz fw
        simp only [stV]
        go_wp2_with (first
          | (at_builtin
             with_reducible refine gate_append ?_
             refine wpList_app (by rfl) _ _ (by rfl) (w.heap.size + 2) wr.heap.size _ _ l.length o.length (ints l) (ints o) (by rfl) (by rfl) ?k1 ?k2 (ints_one _) ?k3 ?k4 ?k5
             case k1 => ((repeat (refine own_set ?_ _ (by simp) _)); exact own_below HM.out.own HB2.out (Nat.le_refl _))
             case k2 => ((repeat (refine own_set ?_ _ (by simp; try omega) _)); exact HO2.out)
             case k3 => (have := HL.out; have := HOl.out; omega)
             case k4 => (simp [World.setCell]; try omega)
             intro v3 w3 HA3
             have hM3 := Mid.next (l2 := o) s'.need s'.code s'.fr s'.to ⟨s'.kept.toArray⟩ s'.half s'.mode HM.out rfl HB2.out HA3 rfl
             have HM3 : Hid (Mid w (stCells s') (stCells st0) (l ++ o) v3 w3) := Lib.hid hM3
             obtain ⟨fx3, fy3, fz3, fw3⟩ := hM3.two.cells
             simp only [stCells] at fy3
             have hs3 := hM3.two.size
             clear HA3 fx2 fy2 fz2 fw2 hM3 fx3 fy3 fz3 fw3))
        refine ⟨⟨j + 1, s', l ++ o, ?_, by omega, HK2, ?_, ?_, HM3⟩, by simp [intOf]; omega⟩
        · go_num
        · have h := take_yes hlt HR.out HO.out
          exact Lib.hid h
        · have h1 := HL.out
          have h2 := HOl.out
          exact Lib.hid (by rw [List.length_append]; omega)
    · have hj3 : j = 3 := by omega
      subst hj3
      simp only [stCells] at fy
      go_wp2_with fail
      refine bodyPost_ret (by simp [results, Tryd.results91, go_sem, fy]; rfl) rfl ?_
      have hR := HR.out
      have hR : (st, l) = Pl.dStep 3 s c := hR
      have hM := HM.out
      have hA := ansS_of (s0 := (Pl.dStep 3 s c).1) (l0 := (Pl.dStep 3 s c).2) (by rw [← hR]) (by rw [← hR]) hM
      exact hA
end Go.Proofs.YtefohnbmifblkaaDoor
