/-
  The walk of TopRuns.
-/
import Derived.Test.YtefohnbmifblkabDoorTpU
import Derived.Test.YtefohnbmifblkabDoorTpA
import Derived.Deep.RegionWith
namespace Go.Proofs.YtefohnbmifblkabDoor
open Go.RowKit

theorem Reps.at_ {base : Nat} {w : World} {p : Option Addr} {n c : Nat} {rs : List Rp} (h : Reps base w (.slice p n c) rs) (j : Nat) (r : Rp) (hj : rs[j]? = some r) :
    ∃ (g : Nat) (u : Value), p = some ⟨g, 0, none⟩ ∧ w.cell? ⟨g, j * 5, none⟩ = some (.int .i64 r.code) ∧ w.cell? ⟨g, j * 5 + 1, none⟩ = some (.int .i64 r.vd.1) ∧ w.cell? ⟨g, j * 5 + 2, none⟩ = some (.int .i64 r.vd.2.1) ∧ w.cell? ⟨g, j * 5 + 3, none⟩ = some (.bool r.vd.2.2) ∧ w.cell? ⟨g, j * 5 + 4, none⟩ = some u ∧ Ints w u r.out := by
  obtain ⟨us, hus, hrow, hi⟩ := h
  have hlt := (List.getElem?_eq_some_iff.1 hj).1
  obtain ⟨u, hu⟩ : ∃ u, us[j]? = some u := ⟨_, List.getElem?_eq_getElem (by omega)⟩
  have hat := repCells_at rs us j r u hj hu
  have hint := own_ints (hi j r u hj hu)
  rcases hrow.2 with ⟨_, h0⟩ | ⟨g, cap, cur, he, _⟩
  · omega
  · injection he with e1 _ _
    subst e1
    have hc := fun i x hx => hrow.cells (g := g) rfl i x hx
    have ea : ∀ k, (⟨g, 0, none⟩ : Addr).add k = ⟨g, k, none⟩ := fun k => by unfold Addr.add; split <;> simp_all
    refine ⟨g, u, rfl, ?_, ?_, ?_, ?_, ?_, hint⟩
    · rw [← ea]
      exact hc _ _ (by rw [show j * 5 = j * 5 + 0 from rfl, hat 0 (by omega)]; rfl)
    · rw [← ea]
      exact hc _ _ (by rw [hat 1 (by omega)]; rfl)
    · rw [← ea]
      exact hc _ _ (by rw [hat 2 (by omega)]; rfl)
    · rw [← ea]
      exact hc _ _ (by rw [hat 3 (by omega)]; rfl)
    · rw [← ea]
      exact hc _ _ (by rw [hat 4 (by omega)]; rfl)

theorem repl_out : ∀ (l : List Ac) (d : DS), OkD d → ∀ r ∈ repl d l, r.out.length ≤ 24002
  | [], _, _, r, h => by cases h
  | a :: l, d, hd, r, h => by
    rcases List.mem_cons.1 h with rfl | h
    · exact out_len d hd _ _
    · exact repl_out l (act d a) (hd.doDS _ _) r h

set_option maxRecDepth 100000 in
set_option maxHeartbeats 4000000 in
theorem topRuns_walk (hint : ByteArray) (v : Value) (l : List Ac) (k : Int) (w : World) (hh : hint.size ≤ maxLen) (hl : Acts w v l) (hcap : ∀ p n c, v = .slice p n c → n ≤ c) (hg : Gl w) :
    Calls Tryd.prog 5 #[.string hint, v, .int .i64 k] w fun e w' => e = .returned (.bool true) ∧ Below w.heap.size w w' := by
  have HG := Lib.hid hg
  have HH := Lib.hid hh
  have HA := Lib.hid hl
  obtain ⟨p, c, rfl, hlen, _⟩ := hl
  have hlc := hcap _ _ _ rfl
  unfold maxLen at hlen
  clear hg hh hcap
  go_enter Tryd.func5, Tryd.ntmps5
  go_wp2_with fail
  refine (alive_any _ HG.out).mono ?_
  rintro e1 w1 ⟨rfl, hb1⟩
  have HB1 := Lib.hid hb1
  clear hb1
  by_cases h100 : 100 < l.length
  · have h1002 : (100 : Int) < (l.length : Int) := by omega
    go_wp2_with fail
    refine (alive_any _ (HG.out.below HB1.out)).mono ?_
    rintro e2 w2 ⟨rfl, hb2⟩
    have HB2 := Lib.hid (bthen HB1.out hb2)
    clear hb2
    go_wp2_with fail
    go_ret
    exact ⟨rfl, HB2.out⟩
  have h1002 : (l.length : Int) ≤ 100 := by omega
  obtain ⟨q, hq⟩ : ∃ q, k.tmod ((l.length : Int) + 1) = q := ⟨_, rfl⟩
  have hq0 : -((l.length : Int) + 1) < q := by
    rw [← hq]
    exact Int.lt_tmod_of_pos k (by omega)
  have hq1 : q < (l.length : Int) + 1 := by
    rw [← hq]
    exact Int.tmod_lt_of_pos k (by omega)
  obtain ⟨m, hm⟩ : ∃ m : Nat, (q + (l.length : Int) + 1) % ((l.length : Int) + 1) = (m : Int) := ⟨((q + (l.length : Int) + 1) % ((l.length : Int) + 1)).toNat, by
    have := Int.emod_nonneg (q + (l.length : Int) + 1) (show ((l.length : Int) + 1) ≠ 0 by omega)
    omega⟩
  have hm1 : (m : Int) ≤ (l.length : Int) := by
    have := Int.emod_lt_of_pos (q + (l.length : Int) + 1) (show 0 < ((l.length : Int) + 1) by omega)
    omega
  have HA1 := Lib.hid (HA.out.below HB1.out)
  go_wp2_with (first
    | (at_builtin
       with_reducible refine gate_append ?_
       refine wpList_appA (by rfl) _ _ (by rfl) _ l (by rfl) (by rfl) HA1.out (by omega) ?_
       intro v2 w2 hA2 hb2
       have HA2 := Lib.hid hA2
       have HB2 := Lib.hid (bthen HB1.out hb2)
       clear hA2 hb2))
  obtain ⟨d0, hd0⟩ : ∃ x, newDS (Pl.find hint.data.toList) = x := ⟨_, rfl⟩
  have hf := find_range hint.data.toList
  have hok := okNew _ hf.1 hf.2
  rw [hd0] at hok
  have HOK := Lib.hid hok
  have HD0 := Lib.hid hd0
  clear hf hok hd0 hq hq0 hq1 hm
  refine (run_any hint v2 l w2 HH.out HA2.out (HG.out.below HB2.out) (by omega)).mono ?_
  rintro e3 w3 ⟨⟨v3, rfl, hR3⟩, hb3⟩
  rw [show newDS (Pl.find hint.data.toList) = d0 from HD0.out] at hR3
  obtain ⟨p3, c3, rfl⟩ := hR3.form
  have HR3 := Lib.hid hR3
  have HB3 := Lib.hid (bthen HB2.out hb3)
  have HAm := Lib.hid ((HA.out.take m (by omega)).below HB3.out)
  have hl3 : (repl d0 l).length = l.length := repl_len l d0
  have hlm : (l.take m).length = m := by rw [List.length_take]; omega
  rw [hl3] at HR3 ⊢
  have hmc : (m : Int) ≤ (c : Int) := by omega
  have hm0 : (0 : Int) ≤ (m : Int) := by omega
  clear hR3 hb3
  go_wp2_with (first
    | (at_builtin
       with_reducible refine gate_append ?_
       refine wpList_appA (by rfl) _ _ (by rfl) _ (l.take m) (by rfl) (by rfl) HAm.out (by omega) ?_
       intro v4 w4 hA4 hb4
       have HA4 := Lib.hid hA4
       have HB4 := Lib.hid (bthen HB3.out hb4)
       have HR4 := Lib.hid (HR3.out.stay (Stay.below hb4))
       clear hA4 hb4))
  refine (run_any hint v4 (l.take m) w4 HH.out HA4.out (HG.out.below HB4.out) (by omega)).mono ?_
  rintro e5 w5 ⟨⟨v5, rfl, hR5⟩, hb5⟩
  rw [show newDS (Pl.find hint.data.toList) = d0 from HD0.out] at hR5
  obtain ⟨p5, c5, rfl⟩ := hR5.form
  have HR5 := Lib.hid hR5
  have HB5 := Lib.hid (bthen HB4.out hb5)
  have HR35 := Lib.hid (HR4.out.stay (Stay.below hb5))
  have hl5 : (repl d0 (l.take m)).length = m := (repl_len _ _).trans hlm
  rw [hl5] at HR5 ⊢
  have hnn1 : ((l.length : Int) != (l.length : Int)) = false := by simp
  have hnn2 : ((m : Int) != (m : Int)) = false := by simp
  clear hR5 hb5 HR3 HR4 hl3 hl5 hlm
  go_wp2_with fail
  go_loopw [11] (fun i wr => ∃ j : Nat, j ≤ m ∧ i = .int .i64 j ∧ Aside (Below w5.heap.size w5 wr)) (fun i _ => m - (intOf i).toNat)
  case atStart => exact ⟨0, by omega, rfl, Below.refl _ _⟩
  case round =>
    obtain ⟨j, hj, rfl, hbr⟩ := hrel
    have HBr := Lib.hid hbr.out
    clear hbr
    by_cases hlt : j < m
    · have hlt2 : (j : Int) < (m : Int) := by omega
      have hlt3 : (j : Int) < (l.length : Int) := by omega
      obtain ⟨r, hr⟩ : ∃ r, (repl d0 (l.take m))[j]? = some r := ⟨_, List.getElem?_eq_getElem (by rw [repl_len, List.length_take]; omega)⟩
      have hr' : (repl d0 l)[j]? = some r := by
        rw [repl_take, List.getElem?_take] at hr
        rwa [if_pos hlt] at hr
      have hout := repl_out l d0 HOK.out r (List.mem_of_getElem? hr')
      obtain ⟨g, u, rfl, x0, x1, x2, x3, x4, hI⟩ := (HR35.out.stay (Stay.below HBr.out)).at_ j r hr'
      obtain ⟨g', u', rfl, y0, y1, y2, y3, y4, hI'⟩ := (HR5.out.stay (Stay.below HBr.out)).at_ j r hr
      obtain ⟨pu, cu, rfl, _⟩ := id hI
      obtain ⟨pu', cu', rfl, _⟩ := id hI'
      have HS : Hid (∀ W', Drew wr W' → Calls Tryd.prog 12 #[.agg #[.int .i64 r.code, .int .i64 r.vd.1, .int .i64 r.vd.2.1, .bool r.vd.2.2, .slice pu r.out.length cu], .agg #[.int .i64 r.code, .int .i64 r.vd.1, .int .i64 r.vd.2.1, .bool r.vd.2.2, .slice pu' r.out.length cu']] W' fun e w' => e = .returned (.bool true) ∧ Below wr.heap.size wr w') := Lib.hid fun W' hW => by
        refine (topSameReply_any W' r.code r.vd.1 r.vd.2.1 r.vd.2.2 _ _ r.out (by unfold maxLen; omega) (hI.below hW.below) (hI'.below hW.below)).mono ?_
        rintro e w' ⟨rfl, hb⟩
        exact ⟨rfl, bthen hW.below hb⟩
      clear hI hI' hr hr' hout
      go_wp2_with fail
      go_region_with
        (first
          | (go_at_call 12
             with_reducible refine (HS.out _ ?_).mono ?_
             · first | exact (Drew.refl wr).drew | exact Drew.refl wr | exact ⟨_, rfl⟩
             rintro e6 w6 ⟨rfl, hb6⟩
             have HB6 := Lib.hid (bthen HBr.out hb6)
             clear hb6))
      all_goals
        clear x0 x1 x2 x3 x4 y0 y1 y2 y3 y4
        go_wp2_with fail
        go_roundw
        case rel => exact ⟨j + 1, by omega, by go_num, HB6.out⟩
        case measure => simp [intOf]; omega
    · have hj2 : j = m := by omega
      subst hj2
      go_wp2_with fail
      go_ret
      exact ⟨rfl, bthen HB5.out HBr.out⟩
end Go.Proofs.YtefohnbmifblkabDoor
