/-
  detect.Do at finish.
-/
import Derived.Test.YtefohnbmifblkaaDoorDoA
import Derived.Deep.RegionHeld3
import Derived.Deep.DrawnRows
namespace Go.Proofs.YtefohnbmifblkaaDoor
open Go.RowKit
attribute [local go_sem ↓] Go.wp_at_zero Go.wp_at_succ

set_option maxRecDepth 100000 in
set_option maxHeartbeats 4000000 in
theorem do_finish (base b : Nat) (o : Option Nat) (d : DS) (bs : ByteArray) (w : World) (hdet : Det base w b o d) (ha0 : 0 ≤ d.acts) (ha : d.acts < 300) (he : d.ended = false) (hv0 : 1 ≤ (vd (fin d)).1 ∧ (vd (fin d)).1 ≤ 6) (hg : Gl w) (hgb : Gb base) (hl : d.bs.length ≤ 4000) :
    Calls Tryd.prog 24 #[.pointer (some ⟨b, 0, none⟩), .agg #[.int .i64 3, .string bs]] w fun e w' => AnsD base w b o (fin d) ⟨0, vd (fin d), tell (vd (fin d)).1 d.bs⟩ e w' := by
  have HDet := Lib.hid hdet
  have hb : b < w.heap.size := hdet.lt
  have hap := hdet.apart
  have hno : o ≠ some (w.heap.size + 1) := fun e => by have := (hdet.own_lt _ e).2; omega
  obtain ⟨v, hblk, hown, hvo⟩ := hdet.mem
  have hc := fun k => cell_of_row w b k _ _ _ hblk
  have hfz : ∀ k, w.frozen? ⟨b, k, none⟩ = false := fun _ => by unfold World.frozen?; simp [hblk]
  have c18 : w.cell? ⟨b, 18, none⟩ = some (.int .i64 d.acts) := hc 18
  have c17 : w.cell? ⟨b, 17, none⟩ = some (.bool d.ended) := hc 17
  have c1 : w.cell? ⟨b, 1, none⟩ = some (v) := hc 1
  rw [he] at c17
  have HG := Lib.hid hg
  clear hg
  clear hc hblk hdet hown hvo
  go_enter Tryd.func24, Tryd.ntmps24
  go_wp2_with fail
  have hD := (((Det.set (d' := tick d) HDet.out 18 (.int .i64 (d.acts + 1)) (fun _ => rfl) rfl).set (d' := fin d) 17 (.bool true) (fun _ => rfl) rfl).alloc (.cells #[.int .i64 3, .string bs] 30)).alloc (.cells #[.int .i64 0, .int .i64 0, .int .i64 0, .bool false, .slice none 0 0] 38)
  have hK := ((((Keep.refl w b o).set (.inl rfl) (.int .i64 (d.acts + 1)) : Keep w (w.setCell ⟨b, 18, none⟩ _) b o).set (.inl rfl) (.bool true) : Keep w ((w.setCell ⟨b, 18, none⟩ _).setCell ⟨b, 17, none⟩ _) b o).alloc (.cells #[.int .i64 3, .string bs] 30)).alloc (.cells #[.int .i64 0, .int .i64 0, .int .i64 0, .bool false, .slice none 0 0] 38)
  have hG := HG.out.keep hgb HDet.out hK
  refine (verdict_any base b o (fin d) _ hD hG hl).mono ?_
  rintro e w1 ⟨rfl, hb1⟩
  have hz1 := hb1.size
  have hR : (∀ k, w1.cell? ⟨w.heap.size + 1, k, none⟩ = (#[.int .i64 0, .int .i64 0, .int .i64 0, .bool false, .slice none 0 0] : Array Value)[k]?) ∧ (∀ k, w1.frozen? ⟨w.heap.size + 1, k, none⟩ = false) := alloc_cells (heap_at (by simp [World.setCell])) hb1
  obtain ⟨fx, fz⟩ := hR
  have HD1 := Lib.hid (hD.below hb1 (Nat.le_refl _))
  have HK1 := Lib.hid (hK.bel hb1)
  have HG1 := Lib.hid (hG.below hb1)
  have hz2 : w.heap.size + 2 ≤ w1.heap.size := by simpa [World.setCell] using hz1
  clear hD hK hG hb1 hz1
  obtain ⟨e0, hv1⟩ : ∃ x, (vd (fin d)).1 = x := ⟨_, rfl⟩
  obtain ⟨e1, hv2⟩ : ∃ x, (vd (fin d)).2.1 = x := ⟨_, rfl⟩
  obtain ⟨e2, hv3⟩ : ∃ x, (vd (fin d)).2.2 = x := ⟨_, rfl⟩
  rw [hv1] at hv0
  rw [hv1, hv2, hv3]
  have HV1 := Lib.hid hv1
  have HV2 := Lib.hid hv2
  have HV3 := Lib.hid hv3
  have HT : Hid (∀ W : World, Gl W → Calls Tryd.prog 38 #[.int .i64 e0, .string ⟨d.bs.toArray⟩] W fun x w' => AnsT W (tell e0 d.bs) x w') := Lib.hid fun W h => tell_any e0 ⟨d.bs.toArray⟩ W hv0 (by show d.bs.toArray.size ≤ _; simpa using hl) h
  clear hv1 hv2 hv3
  obtain ⟨tl, htl⟩ : ∃ x, tell e0 d.bs = x := ⟨_, rfl⟩
  rw [htl] at HT
  have HTL := Lib.hid htl
  clear htl
  go_wp2_with fail
  have hq : (w1.alloc (.cells #[.int .i64 e0, .int .i64 e1, .bool e2] 35)).heap[w1.heap.size]? = some (.cells #[.int .i64 e0, .int .i64 e1, .bool e2] 35 (0, 0)) := heap_alloc_new w1 _
  have hDW := HD1.out.alloc (.cells #[.int .i64 e0, .int .i64 e1, .bool e2] 35)
  have hKW := HK1.out.alloc (.cells #[.int .i64 e0, .int .i64 e1, .bool e2] 35)
  have hGW := HG1.out.below ((Below.refl w1.heap.size w1).alloc (Nat.le_refl _) (.cells #[.int .i64 e0, .int .i64 e1, .bool e2] 35))
  have hRW : (∀ k, (w1.alloc (.cells #[.int .i64 e0, .int .i64 e1, .bool e2] 35)).cell? ⟨w.heap.size + 1, k, none⟩ = (#[.int .i64 0, .int .i64 0, .int .i64 0, .bool false, .slice none 0 0] : Array Value)[k]?) := fun k => (((Below.refl w1.heap.size w1).alloc (Nat.le_refl _) _).cell (p := ⟨w.heap.size + 1, k, none⟩) (by show w.heap.size + 1 < _; omega)).trans (fx k)
  have hZW : (∀ k, (w1.alloc (.cells #[.int .i64 e0, .int .i64 e1, .bool e2] 35)).frozen? ⟨w.heap.size + 1, k, none⟩ = false) := fun k => (((Below.refl w1.heap.size w1).alloc (Nat.le_refl _) _).frozen (p := ⟨w.heap.size + 1, k, none⟩) (by show w.heap.size + 1 < _; omega)).trans (fz k)
  have hzW : w.heap.size + 2 ≤ (w1.alloc (.cells #[.int .i64 e0, .int .i64 e1, .bool e2] 35)).heap.size := by simp; omega
  have hqb : w1.heap.size ≠ b := by omega
  have hq1 : w1.heap.size ≠ w.heap.size + 1 := by omega
  generalize w1.alloc _ = W at hq hDW hKW hGW hRW hZW hzW ⊢
  generalize w1.heap.size = q at hq hqb hq1 ⊢
  have hqW : q < W.heap.size := (Array.getElem?_eq_some_iff.1 hq).1
  have q0 : W.cell? ⟨q, 0, none⟩ = some (.int .i64 e0) := cell_of_row W q 0 _ _ _ hq
  have q1 : W.cell? ⟨q, 1, none⟩ = some (.int .i64 e1) := cell_of_row W q 1 _ _ _ hq
  have q2 : W.cell? ⟨q, 2, none⟩ = some (.bool e2) := cell_of_row W q 2 _ _ _ hq
  have hbW : b < W.heap.size := hDW.lt
  obtain ⟨v', hvb, hvo, hvw⟩ := hDW.mem
  have q3 : W.cell? ⟨b, 1, none⟩ = some v' := cell_of_row W b 1 _ _ _ hvb
  have HVO : Hid (W.ownsRow base 5 1 v' d.bs.length (byteVals d.bs)) := Lib.hid hvo
  have q4 : (convert 69 9 v').run Tryd.prog W.drew = .ok (.string ⟨d.bs.toArray⟩) W.drew := own_string (P := Tryd.prog) Tryd.underlying69 Tryd.underlying5 Tryd.underlying9 HVO.out.drew
  have q5 : (convert 69 9 v').run Tryd.prog W = .ok (.string ⟨d.bs.toArray⟩) W := own_string (P := Tryd.prog) Tryd.underlying69 Tryd.underlying5 Tryd.underlying9 HVO.out
  have HVW := Lib.hid hvw
  have HDW := Lib.hid hDW
  have HKW := Lib.hid hKW
  have HGW := Lib.hid hGW
  clear hvb hvo hvw hq hDW hKW hGW fx fz c1 c17 c18
  go_region_with
    (first
      | (go_at_call 38
         refine (HT.out _ (by first | exact HGW.out.drew ((Drew.refl W).drew) | exact HGW.out.drew ⟨_, rfl⟩ | exact HGW.out)).mono ?_
         rintro e3 w2 ⟨⟨v2, rfl, ho2⟩, hbel⟩
         obtain ⟨p2, cap2, rfl⟩ := own_form ho2
         have r0 : w2.cell? ⟨q, 0, none⟩ = some (.int .i64 e0) := (hbel.cell (p := ⟨q, 0, none⟩) hqW).trans q0
         have r1 : w2.cell? ⟨q, 1, none⟩ = some (.int .i64 e1) := (hbel.cell (p := ⟨q, 1, none⟩) hqW).trans q1
         have r2 : w2.cell? ⟨q, 2, none⟩ = some (.bool e2) := (hbel.cell (p := ⟨q, 2, none⟩) hqW).trans q2
         (have HVO2 : Hid (w2.ownsRow base 5 1 v' d.bs.length (byteVals d.bs)) := Lib.hid (own_below HVO.out (show Below W.heap.size W w2 from ⟨hbel.os, hbel.tape, hbel.output, hbel.size, hbel.block⟩) (Nat.le_refl _)))
         (have hx2 : (∀ k, w2.cell? ⟨w.heap.size + 1, k, none⟩ = (#[.int .i64 0, .int .i64 0, .int .i64 0, .bool false, .slice none 0 0] : Array Value)[k]?) := fun k => (hbel.cell (p := ⟨w.heap.size + 1, k, none⟩) (show w.heap.size + 1 < W.heap.size by omega)).trans (hRW k))
         (have hy2 : (∀ k, w2.frozen? ⟨w.heap.size + 1, k, none⟩ = false) := fun k => (hbel.frozen (p := ⟨w.heap.size + 1, k, none⟩) (show w.heap.size + 1 < W.heap.size by omega)).trans (hZW k))))
  all_goals
    have hB : Below W.heap.size W w2 := ⟨hbel.os, hbel.tape, hbel.output, hbel.size, hbel.block⟩
    have hz2 := hB.size
    have HD2 := Lib.hid (HDW.out.below hB (Nat.le_refl _))
    have HK2 := Lib.hid (HKW.out.bel hB)
    have HO2 : Hid (w2.ownsRow (w.heap.size + 2) 3 1 (.slice p2 tl.length cap2) tl.length (ints tl)) := Lib.hid (World.ownsRow.mono ho2 hzW)
    clear hbel ho2 hB r0 r1 r2 q0 q1 q2 q3 q4 q5 hRW hZW
    go_wp2_with fail
    refine bodyPost_ret (by simp [results, Tryd.results24, go_sem, hx2]; rfl) rfl ?_
    rw [show vd (fin d) = (e0, e1, e2) from Prod.ext HV1.out (Prod.ext HV2.out HV3.out), show tell (e0, e1, e2).1 d.bs = tl from HTL.out]
    refine ⟨⟨_, rfl, ?_⟩, ⟨o, ?_, .inl rfl⟩, ?_⟩
    · refine World.ownsRow.mono (base := w.heap.size + 2) ?_ (by omega)
      repeat (with_reducible refine own_set ?_ _ (by simp) _)
      exact HO2.out
    · repeat (with_reducible refine Det.far ?_ (by simp; omega) (by exact hno) _)
      exact HD2.out
    · repeat (with_reducible refine Keep.set ?_ (.inr (by simp)) _)
      exact HK2.out
end Go.Proofs.YtefohnbmifblkaaDoor
