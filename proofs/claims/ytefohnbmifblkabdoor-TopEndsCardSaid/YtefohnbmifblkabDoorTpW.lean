/-
  The walk of TopEnds.
-/
import Derived.Test.YtefohnbmifblkabDoorTpH
import Derived.Test.YtefohnbmifblkabDoorTpR
namespace Go.Proofs.YtefohnbmifblkabDoor
open Go.RowKit

theorem fieldCode (cd x y : Int) (f : Bool) (v : Value) (W : World) : (Instr.field 34 (.agg #[.int .i64 cd, .int .i64 x, .int .i64 y, .bool f, v]) 0).run Tryd.prog W = .ok (.int .i64 cd) W := by
  have hI : (Tryd.prog.info? 29).map (fun i => i.size) = some 1 := by kernel_rfl
  obtain ⟨i, hi, h3⟩ := Option.map_eq_some_iff.1 hI
  have hU := Tryd.underlying34
  have hV := Tryd.underlying29
  simp [Instr.field, run_underlying hU, run_underlying hV, asAgg, part, isAgg, sizeOf, typeInfo, hi, h3]

set_option maxRecDepth 100000 in
set_option maxHeartbeats 4000000 in
theorem topEnds_walk (hint : ByteArray) (v : Value) (l : List Ac) (k : Int) (bs : ByteArray) (w : World) (hh : hint.size ≤ maxLen) (hs : bs.size ≤ maxLen) (hl : Acts w v l) (hg : Gl w) :
    Calls Tryd.prog 4 #[.string hint, v, .agg #[.int .i64 k, .string bs]] w fun e w' => e = .returned (.bool true) ∧ Below w.heap.size w w' := by
  have HG := Lib.hid hg
  have HH := Lib.hid hh
  have HS := Lib.hid hs
  have HA := Lib.hid hl
  obtain ⟨p, c, rfl, hlen, _⟩ := hl
  unfold maxLen at hlen
  clear hg hh hs
  have hfld := fieldCode
  go_enter Tryd.func4, Tryd.ntmps4
  go_wp2_with fail
  have hb0 : Below w.heap.size w (w.alloc (.cells #[.int .i64 k, .string bs] 24)) := (Below.refl _ _).alloc (Nat.le_refl _) _
  have hx0 : (w.alloc (.cells #[.int .i64 k, .string bs] 24)).heap[w.heap.size]? = some (.cells #[.int .i64 k, .string bs] 24 (0, 0)) := heap_alloc_new w _
  obtain ⟨z, hz⟩ : ∃ z, w.heap.size = z := ⟨_, rfl⟩
  have HZ := Lib.hid hz
  rw [hz] at hx0
  try rw [hz]
  clear hz
  generalize World.alloc _ _ = w0 at hb0 hx0 ⊢
  have HB0 := Lib.hid hb0
  have HX0 := Lib.hid hx0
  have HG0 := Lib.hid (HG.out.below hb0)
  have HA0 := Lib.hid (HA.out.below hb0)
  clear hb0 hx0
  refine (play_quiet w0 w0 hint _ l (Below.refl _ _) HG0.out HH.out HA0.out).mono ?_
  rintro e1 w1 ⟨b, rfl, hA1⟩
  have hac := (ok_acts (newDS (Pl.find hint.data.toList)) l rfl).2
  obtain ⟨d0, hd0⟩ : ∃ x, runA (newDS (Pl.find hint.data.toList)) (l.take 100) = x := ⟨_, rfl⟩
  rw [hd0] at hA1 hac
  have HA1 := Lib.hid hA1
  have HAc := Lib.hid hac
  clear hA1 hd0 hac
  obtain ⟨n0, hn0⟩ : ∃ n0, min l.length 100 = n0 := ⟨_, rfl⟩
  have hmin : min (l.length : Int) 100 = (n0 : Int) := by omega
  have hn1 : n0 ≤ 100 := by omega
  rw [hn0] at HAc
  clear hn0
  go_wp2_with fail
  go_loopw [9] (fun i wr => ∃ j : Nat, j ≤ 300 ∧ n0 ≤ j ∧ i = .int .i64 j ∧ Aside (At w0 b (idle d0 (j - n0)) wr)) (fun i _ => 300 - (intOf i).toNat)
  case atStart =>
    refine ⟨n0, by omega, by omega, ?_, ?_⟩
    · go_num
    · rw [Nat.sub_self]
      exact HA1.out
  case round =>
    obtain ⟨j, hj, hj0, rfl, hAt⟩ := hrel
    have ha := idle_acts d0 (j - n0)
    rw [HAc.out] at ha
    by_cases hlt : j < 300
    · have hlt2 : (j : Int) < 300 := by omega
      have HK : Hid (doDS (idle d0 (j - n0)) 0 [] = (idle d0 (j + 1 - n0), rp0 2)) := Lib.hid (by
        rw [kind_bad _ (by omega), show j + 1 - n0 = (j - n0) + 1 by omega]
        rfl)
      clear ha
      go_wp2_with fail
      refine (do_at w0 wr b (idle d0 (j - n0)) 0 ⟨#[]⟩ hAt.out HG0.out (by decide)).mono ?_
      rintro e2 w2 ⟨⟨v2, rfl, ho2⟩, hA2, _, _⟩
      rw [show (⟨#[]⟩ : ByteArray).data.toList = [] from rfl, HK.out] at hA2 ho2 ⊢
      obtain ⟨p2, c2, rfl⟩ := own_form ho2
      have HA2 := Lib.hid hA2
      clear hA2 ho2 hAt
      simp only [rpV, rp0]
      go_wp2_with fail
      go_roundw
      case rel => exact ⟨j + 1, by omega, by omega, by go_num, HA2.out⟩
      case measure => simp [intOf]; omega
    · have hj2 : j = 300 := by omega
      subst hj2
      obtain ⟨d1, hd1⟩ : ∃ x, idle d0 (300 - n0) = x := ⟨_, rfl⟩
      have hA3 := hAt.out
      rw [hd1] at hA3 ha
      have HF := Lib.hid (full_bad d1 k bs.data.toList (by omega))
      have HA3 := Lib.hid hA3
      have hx3 := (hA3.below.block _ (Array.getElem?_eq_some_iff.1 HX0.out).1).trans HX0.out
      have HX3 := Lib.hid hx3
      have q0 : wr.cell? ⟨z, 0, none⟩ = some (.int .i64 k) := cell_of_row wr z 0 _ _ _ HX3.out
      have q1 : wr.cell? ⟨z, 1, none⟩ = some (.string bs) := cell_of_row wr z 1 _ _ _ HX3.out
      clear hAt hA3 ha hx3 hd1
      go_wp2_with fail
      refine (bytes_at w0 wr b d1 HA3.out).mono ?_
      rintro e4 w4 ⟨rfl, hw4⟩
      subst hw4
      go_wp2_with fail
      refine (do_at w0 wr b d1 k bs HA3.out HG0.out HS.out).mono ?_
      rintro e5 w5 ⟨⟨v5, rfl, ho5⟩, hA5, _, _⟩
      rw [HF.out] at hA5 ho5 ⊢
      obtain ⟨p5, c5, rfl⟩ := own_form ho5
      have HA5 := Lib.hid hA5
      clear hA5 ho5 q0 q1
      simp only [rpV, rp0]
      go_wp2_with fail
      refine (topSameReply_any w5 5 0 0 false (.slice p5 ([] : List Int).length c5) (.slice none 0 0) [] (by decide) ⟨p5, c5, rfl, .inl rfl⟩ (Ints.nil w5)).mono ?_
      rintro e6 w6 ⟨rfl, hb6⟩
      have HA6 := Lib.hid (HA5.out.next hb6)
      clear hb6
      go_wp2_with fail
      refine (bytes_at w0 w6 b d1 HA6.out).mono ?_
      rintro e7 w7 ⟨rfl, hw7⟩
      subst hw7
      have HB7 := Lib.hid (HB0.out.trans (HA6.out.below.mono HB0.out.size))
      go_wp2_with fail
      go_ret
      exact ⟨rfl, HB7.out⟩
end Go.Proofs.YtefohnbmifblkabDoor
