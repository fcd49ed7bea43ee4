/-
  The walk of the references' Do: it does what the program's does.
-/
import Derived.Test.YtefohnbmifblkaaDoorRfH
import Derived.Test.YtefohnbmifblkaaDoorDoD
import Derived.Test.YtefohnbmifblkaaDoorDoG
import Derived.RegionTactic
import Derived.BigQuiet
import Derived.Deep.RegionWith
namespace Go.Proofs.YtefohnbmifblkaaDoor
open Go.RowKit
attribute [local go_sem ↓] Go.wp_at_zero Go.wp_at_succ

/-- what the references' Do leaves. -/
def AnsR (w : World) (c : Nat) (d' : DS) (r : Rp) (e : Ending) (w' : World) : Prop :=
  (∃ v, e = .returned (rpV r v) ∧ w'.ownsRow w.heap.size 3 1 v r.out.length (ints r.out)) ∧ RDet w' c d' ∧ Keep w w' c none

set_option maxRecDepth 100000 in
set_option maxHeartbeats 4000000 in
theorem ref_full (c : Nat) (d : DS) (k : Int) (bs : ByteArray) (w : World) (hR : RDet w c d) (ha : d.acts = 300) :
    Calls Tryd.prog 30 #[.pointer (some ⟨c, 0, none⟩), .agg #[.int .i64 k, .string bs]] w fun e w' => AnsR w c d (rp0 5) e w' := by
  have HR := Lib.hid hR
  have hb : c < w.heap.size := hR.lt
  obtain ⟨c0, c1, c2, c3, hfz⟩ := hR.cells
  rw [ha] at c3
  clear hR
  go_enter Tryd.func30, Tryd.ntmps30
  go_wp2_with fail
  refine bodyPost_ret (by simp [results, Tryd.results30, go_sem]; rfl) rfl ?_
  exact ⟨⟨_, rfl, World.ownsRow_nil _ _ _ _⟩, (HR.out.alloc _).alloc _, ((Keep.refl w c none).alloc _).alloc _⟩

set_option maxRecDepth 100000 in
set_option maxHeartbeats 4000000 in
theorem ref_kind (c : Nat) (d : DS) (k : Int) (bs : ByteArray) (w : World) (hR : RDet w c d) (ha0 : 0 ≤ d.acts) (ha : d.acts < 300) (hk : k < 1 ∨ 3 < k) :
    Calls Tryd.prog 30 #[.pointer (some ⟨c, 0, none⟩), .agg #[.int .i64 k, .string bs]] w fun e w' => AnsR w c (tick d) (rp0 2) e w' := by
  have HR := Lib.hid hR
  have hb : c < w.heap.size := hR.lt
  obtain ⟨c0, c1, c2, c3, hfz⟩ := hR.cells
  have hac : (d.acts == 300) = false := by rw [beq_eq_false_iff_ne]; omega
  clear hR
  rcases hk with hk | hk
  all_goals
    go_enter Tryd.func30, Tryd.ntmps30
    go_wp2_with fail
    refine bodyPost_ret (by simp [results, Tryd.results30, go_sem]; rfl) rfl ?_
    exact ⟨⟨_, rfl, World.ownsRow_nil _ _ _ _⟩, (HR.out.tick.alloc _).alloc _, (((Keep.refl w c none).set (.inl rfl) _).alloc _).alloc _⟩

set_option maxRecDepth 100000 in
set_option maxHeartbeats 4000000 in
theorem ref_ended (c : Nat) (d : DS) (k : Int) (bs : ByteArray) (w : World) (hR : RDet w c d) (ha0 : 0 ≤ d.acts) (ha : d.acts < 300) (hk0 : 1 ≤ k) (hk1 : k ≤ 3) (hk2 : ¬ k = 2) (he : d.ended = true) :
    Calls Tryd.prog 30 #[.pointer (some ⟨c, 0, none⟩), .agg #[.int .i64 k, .string bs]] w fun e w' => AnsR w c (tick d) (rp0 3) e w' := by
  have HR := Lib.hid hR
  have hb : c < w.heap.size := hR.lt
  obtain ⟨c0, c1, c2, c3, hfz⟩ := hR.cells
  rw [he] at c2
  have hac : (d.acts == 300) = false := by rw [beq_eq_false_iff_ne]; omega
  have hk3 : k = 1 ∨ k = 3 := by omega
  clear hR
  rcases hk3 with rfl | rfl
  all_goals
    go_enter Tryd.func30, Tryd.ntmps30
    go_wp2_with fail
    refine bodyPost_ret (by simp [results, Tryd.results30, go_sem]; rfl) rfl ?_
    exact ⟨⟨_, rfl, World.ownsRow_nil _ _ _ _⟩, (HR.out.tick.alloc _).alloc _, (((Keep.refl w c none).set (.inl rfl) _).alloc _).alloc _⟩

set_option maxRecDepth 100000 in
set_option maxHeartbeats 4000000 in
theorem ref_ask (c : Nat) (d : DS) (bs : ByteArray) (w : World) (hR : RDet w c d) (hok : OkD d) (hsc : ScF d) (hmx : Mx w) (hcm : 2 ≠ c) (ha : d.acts < 300) :
    Calls Tryd.prog 30 #[.pointer (some ⟨c, 0, none⟩), .agg #[.int .i64 2, .string bs]] w fun e w' => AnsR w c (tick d) ⟨0, vd (tick d), []⟩ e w' := by
  have HR := Lib.hid hR
  have ha0 := hok.a0
  have hb : c < w.heap.size := hR.lt
  obtain ⟨c0, c1, c2, c3, hfz⟩ := hR.cells
  have hac : (d.acts == 300) = false := by rw [beq_eq_false_iff_ne]; omega
  have HOk := Lib.hid (hok.tick ha)
  have HSc : Hid (ScF (tick d)) := Lib.hid hsc
  have HM := Lib.hid hmx
  clear hR hok hsc hmx
  go_enter Tryd.func30, Tryd.ntmps30
  go_wp2_with fail
  have hD := (HR.out.tick.alloc (.cells #[.int .i64 2, .string bs] 30)).alloc (.cells #[.int .i64 0, .int .i64 0, .int .i64 0, .bool false, .slice none 0 0] 38)
  have hK := (((Keep.refl w c none).set (.inl rfl) (.int .i64 (d.acts + 1)) : Keep w (w.setCell ⟨c, 3, none⟩ _) c none).alloc (.cells #[.int .i64 2, .string bs] 30)).alloc (.cells #[.int .i64 0, .int .i64 0, .int .i64 0, .bool false, .slice none 0 0] 38)
  refine (refVd_any c (tick d) _ hD HOk.out HSc.out (HM.out.keep hK hcm)).mono ?_
  rintro e w1 ⟨rfl, hb1⟩
  have hR1 : (∀ k, w1.cell? ⟨w.heap.size + 1, k, none⟩ = (#[.int .i64 0, .int .i64 0, .int .i64 0, .bool false, .slice none 0 0] : Array Value)[k]?) ∧ (∀ k, w1.frozen? ⟨w.heap.size + 1, k, none⟩ = false) := alloc_cells (heap_at (by simp [World.setCell])) hb1
  obtain ⟨fx, fz⟩ := hR1
  have HD1 := Lib.hid (hD.below hb1)
  have HK1 := Lib.hid (hK.bel hb1)
  clear hD hK hb1
  go_wp2_with fail
  refine bodyPost_ret (by simp [results, Tryd.results30, go_sem, fx]; rfl) rfl ?_
  refine ⟨⟨_, rfl, World.ownsRow_nil _ _ _ _⟩, ?_, ?_⟩
  · repeat (with_reducible refine RDet.far ?_ (by simp; omega) _)
    exact HD1.out
  · repeat (with_reducible refine Keep.set ?_ (.inr (by simp)) _)
    exact HK1.out

set_option maxRecDepth 100000 in
set_option maxHeartbeats 4000000 in
theorem ref_long (c : Nat) (d : DS) (bs : ByteArray) (w : World) (hR : RDet w c d) (hok : OkD d) (ha : d.acts < 300) (he : d.ended = false) (hs : bs.size ≤ 140737488351232) (hl : 4000 < d.bs.length + bs.size) :
    Calls Tryd.prog 30 #[.pointer (some ⟨c, 0, none⟩), .agg #[.int .i64 1, .string bs]] w fun e w' => AnsR w c (tick d) (rp0 4) e w' := by
  have HR := Lib.hid hR
  have ha0 := hok.a0
  have hlen := hok.len
  have hb : c < w.heap.size := hR.lt
  obtain ⟨c0, c1, c2, c3, hfz⟩ := hR.cells
  rw [he] at c2
  have hac : (d.acts == 300) = false := by rw [beq_eq_false_iff_ne]; omega
  obtain ⟨B, hB⟩ : ∃ B : ByteArray, (⟨d.bs.toArray⟩ : ByteArray) = B := ⟨_, rfl⟩
  have hBs : B.size = d.bs.length := by rw [← hB]; show d.bs.toArray.size = _; simp
  rw [hB] at c1
  have hw : IntKind.i64.wrap ((B.size : Int) + (bs.size : Int)) = (B.size : Int) + (bs.size : Int) := by rw [IntKind.wrap_i64]; omega
  have hgt : (4000 : Int) < (B.size : Int) + (bs.size : Int) := by omega
  clear hR hok hB hBs
  go_enter Tryd.func30, Tryd.ntmps30
  go_wp2_with fail
  go_quiet (fail)
  go_wp2_with fail
  refine bodyPost_ret (by simp [results, Tryd.results30, go_sem]; rfl) rfl ?_
  refine ⟨⟨_, rfl, World.ownsRow_nil _ _ _ _⟩, ?_, ?_⟩
  · repeat (with_reducible refine RDet.far ?_ (by simp; omega) _)
    exact ((HR.out.tick.alloc _).alloc _).drew ⟨_, rfl⟩
  · repeat (with_reducible refine Keep.set ?_ (.inr (by simp)) _)
    exact ((((Keep.refl w c none).set (.inl rfl) _).alloc _).alloc _).drewN _

theorem RDet.fed1 {w : World} {c : Nat} {d : DS} {B : ByteArray} (bs : ByteArray) (h : RDet w c (Go.Proofs.YtefohnbmifblkaaDoor.tick d)) (hB : (⟨d.bs.toArray⟩ : ByteArray) = B) : RDet (w.setCell ⟨c, 1, none⟩ (.string (B ++ bs))) c (Go.Proofs.YtefohnbmifblkaaDoor.fed d bs.data.toList) := by
  have h2 := row_setCell (k := 1) h (.string (B ++ bs))
  unfold RDet
  rw [h2]
  have e : B ++ bs = ⟨(d.bs ++ bs.data.toList).toArray⟩ := by
    rw [← hB]
    apply ByteArray.ext
    simp
  rw [e]
  rfl

set_option maxRecDepth 100000 in
set_option maxHeartbeats 4000000 in
theorem ref_feed (c : Nat) (d : DS) (bs : ByteArray) (w : World) (hR : RDet w c d) (hok : OkD d) (ha : d.acts < 300) (he : d.ended = false) (hl : d.bs.length + bs.size ≤ 4000) :
    Calls Tryd.prog 30 #[.pointer (some ⟨c, 0, none⟩), .agg #[.int .i64 1, .string bs]] w fun e w' => AnsR w c (fed d bs.data.toList) (rp0 0) e w' := by
  have HR := Lib.hid hR
  have ha0 := hok.a0
  have hlen := hok.len
  have hb : c < w.heap.size := hR.lt
  obtain ⟨c0, c1, c2, c3, hfz⟩ := hR.cells
  rw [he] at c2
  have hac : (d.acts == 300) = false := by rw [beq_eq_false_iff_ne]; omega
  obtain ⟨B, hB⟩ : ∃ B : ByteArray, (⟨d.bs.toArray⟩ : ByteArray) = B := ⟨_, rfl⟩
  have hBs : B.size = d.bs.length := by rw [← hB]; show d.bs.toArray.size = _; simp
  have HBB := Lib.hid hB
  rw [hB] at c1
  have hw : IntKind.i64.wrap ((B.size : Int) + (bs.size : Int)) = (B.size : Int) + (bs.size : Int) := by rw [IntKind.wrap_i64]; omega
  have hgt : ¬ (4000 : Int) < (B.size : Int) + (bs.size : Int) := by omega
  clear hR hok hB hBs
  go_enter Tryd.func30, Tryd.ntmps30
  go_wp2_with fail
  go_quiet (fail)
  go_wp2_with fail
  go_region
  all_goals
    go_wp2_with fail
    refine bodyPost_ret (by simp [results, Tryd.results30, go_sem]; rfl) rfl ?_
    refine ⟨⟨_, rfl, World.ownsRow_nil _ _ _ _⟩, ?_, ?_⟩
    · repeat (with_reducible refine RDet.far ?_ (by simp; omega) _)
      exact RDet.fed1 bs (((HR.out.tick.alloc _).alloc _).drew ⟨_, rfl⟩) HBB.out
    · repeat (with_reducible refine Keep.set ?_ (by first | exact .inl rfl | exact .inr (by simp)) _)
      exact ((((Keep.refl w c none).set (.inl rfl) _).alloc _).alloc _).drewN _

set_option maxRecDepth 100000 in
set_option maxHeartbeats 4000000 in
theorem ref_finish (c : Nat) (d : DS) (bs : ByteArray) (w : World) (hR : RDet w c d) (hok : OkD d) (hsc : ScF d) (hmx : Mx w) (hcm : 2 ≠ c) (ha : d.acts < 300) (he : d.ended = false) :
    Calls Tryd.prog 30 #[.pointer (some ⟨c, 0, none⟩), .agg #[.int .i64 3, .string bs]] w fun e w' => AnsR w c (fin d) ⟨0, vd (fin d), tell (vd (fin d)).1 d.bs⟩ e w' := by
  have HR := Lib.hid hR
  have ha0 := hok.a0
  have hl := hok.len
  have hb : c < w.heap.size := hR.lt
  obtain ⟨c0, c1, c2, c3, hfz⟩ := hR.cells
  rw [he] at c2
  have hac : (d.acts == 300) = false := by rw [beq_eq_false_iff_ne]; omega
  have hv0 := vd_range (fin d) hok.h0 hok.h1
  have HOk := Lib.hid (hok.fin ha)
  have HSc : Hid (ScF (fin d)) := Lib.hid hsc
  have HM := Lib.hid hmx
  clear hR hok hsc hmx
  go_enter Tryd.func30, Tryd.ntmps30
  go_wp2_with fail
  have hD := (HR.out.fin.alloc (.cells #[.int .i64 3, .string bs] 30)).alloc (.cells #[.int .i64 0, .int .i64 0, .int .i64 0, .bool false, .slice none 0 0] 38)
  have hK := ((((Keep.refl w c none).set (.inl rfl) (.int .i64 (d.acts + 1)) : Keep w (w.setCell ⟨c, 3, none⟩ _) c none).set (.inl rfl) (.bool true) : Keep w ((w.setCell ⟨c, 3, none⟩ _).setCell ⟨c, 2, none⟩ _) c none).alloc (.cells #[.int .i64 3, .string bs] 30)).alloc (.cells #[.int .i64 0, .int .i64 0, .int .i64 0, .bool false, .slice none 0 0] 38)
  refine (refVd_any c (fin d) _ hD HOk.out HSc.out (HM.out.keep hK hcm)).mono ?_
  rintro e w1 ⟨rfl, hb1⟩
  have hz1 := hb1.size
  have hR1 : (∀ k, w1.cell? ⟨w.heap.size + 1, k, none⟩ = (#[.int .i64 0, .int .i64 0, .int .i64 0, .bool false, .slice none 0 0] : Array Value)[k]?) ∧ (∀ k, w1.frozen? ⟨w.heap.size + 1, k, none⟩ = false) := alloc_cells (heap_at (by simp [World.setCell])) hb1
  obtain ⟨fx, fz⟩ := hR1
  have HD1 := Lib.hid (hD.below hb1)
  have HK1 := Lib.hid (hK.bel hb1)
  have hz2 : w.heap.size + 2 ≤ w1.heap.size := by simpa [World.setCell] using hz1
  clear hD hK hb1 hz1
  obtain ⟨e0, hv1⟩ : ∃ x, (vd (fin d)).1 = x := ⟨_, rfl⟩
  obtain ⟨e1, hv2⟩ : ∃ x, (vd (fin d)).2.1 = x := ⟨_, rfl⟩
  obtain ⟨e2, hv3⟩ : ∃ x, (vd (fin d)).2.2 = x := ⟨_, rfl⟩
  rw [hv1] at hv0
  rw [hv1, hv2, hv3]
  have HV1 := Lib.hid hv1
  have HV2 := Lib.hid hv2
  have HV3 := Lib.hid hv3
  have HT : Hid (∀ W : World, Calls Tryd.prog 39 #[.int .i64 e0, .string ⟨d.bs.toArray⟩] W fun x w' => AnsT W (tell e0 d.bs) x w') := Lib.hid fun W => tellOf_any e0 ⟨d.bs.toArray⟩ W hv0 (by show d.bs.toArray.size ≤ _; simpa using hl)
  clear hv1 hv2 hv3
  obtain ⟨tl, htl⟩ : ∃ x, tell e0 d.bs = x := ⟨_, rfl⟩
  rw [htl] at HT
  have HTL := Lib.hid htl
  clear htl
  go_wp2_with fail
  have hq : (w1.alloc (.cells #[.int .i64 e0, .int .i64 e1, .bool e2] 35)).heap[w1.heap.size]? = some (.cells #[.int .i64 e0, .int .i64 e1, .bool e2] 35 (0, 0)) := heap_alloc_new w1 _
  have hDW := HD1.out.alloc (.cells #[.int .i64 e0, .int .i64 e1, .bool e2] 35)
  have hKW := HK1.out.alloc (.cells #[.int .i64 e0, .int .i64 e1, .bool e2] 35)
  have hRW : (∀ k, (w1.alloc (.cells #[.int .i64 e0, .int .i64 e1, .bool e2] 35)).cell? ⟨w.heap.size + 1, k, none⟩ = (#[.int .i64 0, .int .i64 0, .int .i64 0, .bool false, .slice none 0 0] : Array Value)[k]?) := fun k => (((Below.refl w1.heap.size w1).alloc (Nat.le_refl _) _).cell (p := ⟨w.heap.size + 1, k, none⟩) (by show w.heap.size + 1 < _; omega)).trans (fx k)
  have hZW : (∀ k, (w1.alloc (.cells #[.int .i64 e0, .int .i64 e1, .bool e2] 35)).frozen? ⟨w.heap.size + 1, k, none⟩ = false) := fun k => (((Below.refl w1.heap.size w1).alloc (Nat.le_refl _) _).frozen (p := ⟨w.heap.size + 1, k, none⟩) (by show w.heap.size + 1 < _; omega)).trans (fz k)
  have hzW : w.heap.size + 2 ≤ (w1.alloc (.cells #[.int .i64 e0, .int .i64 e1, .bool e2] 35)).heap.size := by simp; omega
  have hqb : w1.heap.size ≠ c := by omega
  have hq1 : w1.heap.size ≠ w.heap.size + 1 := by omega
  generalize w1.alloc _ = W at hq hDW hKW hRW hZW hzW ⊢
  generalize w1.heap.size = q at hq hqb hq1 ⊢
  have hqW : q < W.heap.size := (Array.getElem?_eq_some_iff.1 hq).1
  have q0 : W.cell? ⟨q, 0, none⟩ = some (.int .i64 e0) := cell_of_row W q 0 _ _ _ hq
  have q1 : W.cell? ⟨q, 1, none⟩ = some (.int .i64 e1) := cell_of_row W q 1 _ _ _ hq
  have q2 : W.cell? ⟨q, 2, none⟩ = some (.bool e2) := cell_of_row W q 2 _ _ _ hq
  have hbW : c < W.heap.size := hDW.lt
  have q3 : W.cell? ⟨c, 1, none⟩ = some (.string ⟨d.bs.toArray⟩) := hDW.cells.2.1
  have HDW := Lib.hid hDW
  have HKW := Lib.hid hKW
  clear hq hDW hKW fx fz c0 c1 c2 c3
  go_region_with
    (first
      | (go_at_call 39
         refine (HT.out _).mono ?_
         rintro e3 w2 ⟨⟨v2, rfl, ho2⟩, hbel⟩
         obtain ⟨p2, cap2, rfl⟩ := own_form ho2
         have r0 : w2.cell? ⟨q, 0, none⟩ = some (.int .i64 e0) := (hbel.cell (p := ⟨q, 0, none⟩) hqW).trans q0
         have r1 : w2.cell? ⟨q, 1, none⟩ = some (.int .i64 e1) := (hbel.cell (p := ⟨q, 1, none⟩) hqW).trans q1
         have r2 : w2.cell? ⟨q, 2, none⟩ = some (.bool e2) := (hbel.cell (p := ⟨q, 2, none⟩) hqW).trans q2
         (have hx2 : (∀ k, w2.cell? ⟨w.heap.size + 1, k, none⟩ = (#[.int .i64 0, .int .i64 0, .int .i64 0, .bool false, .slice none 0 0] : Array Value)[k]?) := fun k => (hbel.cell (p := ⟨w.heap.size + 1, k, none⟩) (show w.heap.size + 1 < W.heap.size by omega)).trans (hRW k))
         (have hy2 : (∀ k, w2.frozen? ⟨w.heap.size + 1, k, none⟩ = false) := fun k => (hbel.frozen (p := ⟨w.heap.size + 1, k, none⟩) (show w.heap.size + 1 < W.heap.size by omega)).trans (hZW k))))
  all_goals
    have hB : Below W.heap.size W w2 := ⟨hbel.os, hbel.tape, hbel.output, hbel.size, hbel.block⟩
    have hz2 := hB.size
    have HD2 := Lib.hid (HDW.out.below hB)
    have HK2 := Lib.hid (HKW.out.bel hB)
    have HO2 : Hid (w2.ownsRow (w.heap.size + 2) 3 1 (.slice p2 tl.length cap2) tl.length (ints tl)) := Lib.hid (World.ownsRow.mono ho2 hzW)
    clear hbel ho2 hB r0 r1 r2 q0 q1 q2 q3 hRW hZW
    go_wp2_with fail
    refine bodyPost_ret (by simp [results, Tryd.results30, go_sem, hx2]; rfl) rfl ?_
    rw [show vd (fin d) = (e0, e1, e2) from Prod.ext HV1.out (Prod.ext HV2.out HV3.out), show tell (e0, e1, e2).1 d.bs = tl from HTL.out]
    refine ⟨⟨_, rfl, ?_⟩, ?_, ?_⟩
    · refine World.ownsRow.mono (base := w.heap.size + 2) ?_ (by omega)
      repeat (with_reducible refine own_set ?_ _ (by simp) _)
      exact HO2.out
    · repeat (with_reducible refine RDet.far ?_ (by simp; omega) _)
      exact HD2.out
    · repeat (with_reducible refine Keep.set ?_ (.inr (by simp)) _)
      exact HK2.out

theorem refDo_any (c : Nat) (d : DS) (k : Int) (bs : ByteArray) (w : World) (hR : RDet w c d) (hok : OkD d) (hsc : ScF d) (hmx : Mx w) (hcm : 2 ≠ c) (hs : bs.size ≤ 140737488351232) :
    Calls Tryd.prog 30 #[.pointer (some ⟨c, 0, none⟩), .agg #[.int .i64 k, .string bs]] w fun e w' => AnsR w c (doDS d k bs.data.toList).1 (doDS d k bs.data.toList).2 e w' := by
  have hsl : bs.data.toList.length = bs.size := by simp
  have a0 := hok.a0
  have a1 := hok.a1
  unfold doDS
  by_cases h300 : 300 ≤ d.acts
  · rw [if_pos h300]
    exact ref_full c d k bs w hR (by omega)
  rw [if_neg h300]
  by_cases hk : k < 1 ∨ 3 < k
  · rw [if_pos hk]
    exact ref_kind c d k bs w hR a0 (by omega) hk
  rw [if_neg hk]
  by_cases hk2 : k = 2
  · subst hk2
    rw [if_pos rfl]
    exact ref_ask c d bs w hR hok hsc hmx hcm (by omega)
  rw [if_neg hk2]
  by_cases he : d.ended = true
  · rw [if_pos he]
    exact ref_ended c d k bs w hR a0 (by omega) (by omega) (by omega) hk2 he
  rw [if_neg he]
  have he2 : d.ended = false := by simpa using he
  by_cases hk3 : k = 3
  · subst hk3
    rw [if_pos rfl]
    exact ref_finish c d bs w hR hok hsc hmx hcm (by omega) he2
  rw [if_neg hk3]
  have hk1 : k = 1 := by omega
  subst hk1
  by_cases hl : 4000 < d.bs.length + bs.data.toList.length
  · rw [if_pos hl]
    exact ref_long c d bs w hR hok (by omega) he2 hs (by omega)
  · rw [if_neg hl]
    exact ref_feed c d bs w hR hok (by omega) he2 (by omega)

/-- what has not the references' detector's type stays. -/
theorem own_keepR {w w' : World} {base n k c : Nat} {e : TypeId} {d : DS} {v : Value} {xs : List Value} (he : e ≠ 48) (h : w.ownsRow base e k v n xs) (hR : RDet w c d) (hk : Keep w w' c none) : w'.ownsRow base e k v n xs := by
  refine ⟨h.1, ?_⟩
  rcases h.2 with h0 | ⟨g, cap, cur, hg, hb, hh, hr⟩
  · exact .inl h0
  · refine .inr ⟨g, cap, cur, hg, hb, (hk.block g (Array.getElem?_eq_some_iff.1 hh).1 ?_ (fun e => by cases e)).trans hh, hr⟩
    rintro rfl
    rw [show w.heap[g]? = _ from hR] at hh
    injection hh with hh
    injection hh with _ e2 _
    exact he e2.symm

/-- the program's Do, beside the references' detector. -/
theorem do_beside (w wi : World) (b c : Nat) (d d2 : DS) (k : Int) (bs : ByteArray) (h : At w b d wi) (hr : RDet wi c d2) (hg : Gl w) (hs : bs.size ≤ maxLen) :
    Calls Tryd.prog 24 #[.pointer (some ⟨b, 0, none⟩), .agg #[.int .i64 k, .string bs]] wi fun e w' =>
      (∃ v, e = .returned (rpV (doDS d k bs.data.toList).2 v) ∧ w'.ownsRow wi.heap.size 3 1 v (doDS d k bs.data.toList).2.out.length (ints (doDS d k bs.data.toList).2.out)) ∧ At w b (doDS d k bs.data.toList).1 w' ∧ RDet w' c d2 := by
  refine (do_at w wi b d k bs h hg hs).mono ?_
  rintro e w' ⟨hv, hA, hSt, _⟩
  exact ⟨hv, hA, hr.stay hSt⟩
/-- the references' Do, beside the program's detector. -/
theorem ref_beside (w wi : World) (b c : Nat) (d d2 : DS) (k : Int) (bs : ByteArray) (h : At w b d2 wi) (hr : RDet wi c d) (hlow : w.heap.size ≤ c) (hok : OkD d) (hsc : ScF d) (hmx : Mx w) (hs : bs.size ≤ 140737488351232) :
    Calls Tryd.prog 30 #[.pointer (some ⟨c, 0, none⟩), .agg #[.int .i64 k, .string bs]] wi fun e w' =>
      (∃ v, e = .returned (rpV (doDS d k bs.data.toList).2 v) ∧ w'.ownsRow wi.heap.size 3 1 v (doDS d k bs.data.toList).2.out.length (ints (doDS d k bs.data.toList).2.out)) ∧ At w b d2 w' ∧ RDet w' c (doDS d k bs.data.toList).1 ∧ (∀ base n v xs, wi.ownsRow base 3 1 v n xs → w'.ownsRow base 3 1 v n xs) := by
  have hcm : 2 ≠ c := by
    obtain ⟨m, hm⟩ := hmx
    have := lt_of_cell hm
    omega
  refine (refDo_any c d k bs wi hr hok hsc (hmx.below h.below) hcm hs).mono ?_
  rintro e w' ⟨hv, hR, hk⟩
  exact ⟨hv, h.only hr (by decide) (by decide) hlow hk, hR, fun base n v xs ho => own_keepR (by decide) ho hr hk⟩
theorem RDet.next {w w' : World} {c : Nat} {d : DS} (h : RDet w c d) (hb : Below w.heap.size w w') : RDet w' c d := h.below hb
end Go.Proofs.YtefohnbmifblkaaDoor
