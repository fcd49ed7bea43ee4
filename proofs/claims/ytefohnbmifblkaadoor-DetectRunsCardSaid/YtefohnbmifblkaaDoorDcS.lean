/-
  The walk of decode.Step at every good state, encoding by encoding.
-/
import Derived.Test.YtefohnbmifblkaaDoorDcE
namespace Go.Proofs.YtefohnbmifblkaaDoor
open Go.RowKit
open Pl (St st0 byte dOk)

def stCells (s : St) : Array Value := #[.int .i64 s.need, .int .i64 s.code, .int .i64 s.fr, .int .i64 s.to, .string ⟨s.kept.toArray⟩, .int .i64 s.half, .int .i64 s.mode]

theorem row_setCell {w : World} {b k : Nat} {c : Array Value} {t : TypeId} {f : Nat × Nat} (h : w.heap[b]? = some (.cells c t f)) (v : Value) : (w.setCell ⟨b, k, none⟩ v).heap[b]? = some (.cells (c.setIfInBounds k v) t f) := by
  simp only [World.setCell, Array.getElem?_modify, h]
  simp
theorem set7 {w : World} {b : Nat} {a0 a1 a2 a3 a4 a5 a6 x0 x1 x2 x3 x4 x5 x6 : Value} {t : TypeId} {f : Nat × Nat} (h : w.heap[b]? = some (.cells #[a0, a1, a2, a3, a4, a5, a6] t f)) :
    (((((((w.setCell ⟨b, 0, none⟩ x0).setCell ⟨b, 1, none⟩ x1).setCell ⟨b, 2, none⟩ x2).setCell ⟨b, 3, none⟩ x3).setCell ⟨b, 4, none⟩ x4).setCell ⟨b, 5, none⟩ x5).setCell ⟨b, 6, none⟩ x6).heap[b]? = some (.cells #[x0, x1, x2, x3, x4, x5, x6] t f) := by
  have h0 : (w.setCell ⟨b, 0, none⟩ x0).heap[b]? = some (.cells #[x0, a1, a2, a3, a4, a5, a6] t f) := by simpa using row_setCell (k := 0) h x0
  have h1 : ((w.setCell ⟨b, 0, none⟩ x0).setCell ⟨b, 1, none⟩ x1).heap[b]? = some (.cells #[x0, x1, a2, a3, a4, a5, a6] t f) := by simpa using row_setCell (k := 1) h0 x1
  have h2 : (((w.setCell ⟨b, 0, none⟩ x0).setCell ⟨b, 1, none⟩ x1).setCell ⟨b, 2, none⟩ x2).heap[b]? = some (.cells #[x0, x1, x2, a3, a4, a5, a6] t f) := by simpa using row_setCell (k := 2) h1 x2
  have h3 : ((((w.setCell ⟨b, 0, none⟩ x0).setCell ⟨b, 1, none⟩ x1).setCell ⟨b, 2, none⟩ x2).setCell ⟨b, 3, none⟩ x3).heap[b]? = some (.cells #[x0, x1, x2, x3, a4, a5, a6] t f) := by simpa using row_setCell (k := 3) h2 x3
  have h4 : (((((w.setCell ⟨b, 0, none⟩ x0).setCell ⟨b, 1, none⟩ x1).setCell ⟨b, 2, none⟩ x2).setCell ⟨b, 3, none⟩ x3).setCell ⟨b, 4, none⟩ x4).heap[b]? = some (.cells #[x0, x1, x2, x3, x4, a5, a6] t f) := by simpa using row_setCell (k := 4) h3 x4
  have h5 : ((((((w.setCell ⟨b, 0, none⟩ x0).setCell ⟨b, 1, none⟩ x1).setCell ⟨b, 2, none⟩ x2).setCell ⟨b, 3, none⟩ x3).setCell ⟨b, 4, none⟩ x4).setCell ⟨b, 5, none⟩ x5).heap[b]? = some (.cells #[x0, x1, x2, x3, x4, x5, a6] t f) := by simpa using row_setCell (k := 5) h4 x5
  have h6 : (((((((w.setCell ⟨b, 0, none⟩ x0).setCell ⟨b, 1, none⟩ x1).setCell ⟨b, 2, none⟩ x2).setCell ⟨b, 3, none⟩ x3).setCell ⟨b, 4, none⟩ x4).setCell ⟨b, 5, none⟩ x5).setCell ⟨b, 6, none⟩ x6).heap[b]? = some (.cells #[x0, x1, x2, x3, x4, x5, x6] t f) := by simpa using row_setCell (k := 6) h5 x6
  exact h6
theorem own_below {w w' : World} {base B : Nat} {e : TypeId} {s n : Nat} {v : Value} {xs : List Value} (h : w.ownsRow base e s v n xs) (hb : Below B w w') (hB : w.heap.size ≤ B) : w'.ownsRow base e s v n xs := by
  refine ⟨h.1, ?_⟩
  rcases h.2 with h0 | ⟨g, cap, cur, hv, hg, hh, hr⟩
  · exact .inl h0
  · refine .inr ⟨g, cap, cur, hv, hg, (hb.block g ?_).trans hh, hr⟩
    have := (Array.getElem?_eq_some_iff.1 hh).1
    omega
theorem ints_one (l : List Int) : ∀ y ∈ ints l, y.oneCell' = true := by
  intro y hy
  obtain ⟨x, _, rfl⟩ := List.mem_map.1 hy
  rfl
theorem ints_app (l k : List Int) : ints l ++ ints k = ints (l ++ k) := (List.map_append ..).symm

/-- a world of Step's loop: the state's row and the result's row. -/
structure Mid (w : World) (st z : Array Value) (l : List Int) (v : Value) (wr : World) : Prop where
  two : Two w st z 92 wr
  own : wr.ownsRow (w.heap.size + 2) 3 1 v l.length (ints l)

/-- what stands behind the store of the new state and the append. -/
theorem Mid.next {w wr w2 W w3 : World} {st z : Array Value} {l l2 : List Int} {v v' : Value} (i0 i1 i2 i3 : Int) (i4 : ByteArray) (i5 i6 : Int) (h : Mid w st z l v wr) (hst : st.size = 7) (hb : Below wr.heap.size wr w2) (ha : Appd W (w.heap.size + 2) v (l.length + l2.length) (ints l ++ ints l2) v' w3)
    (hW : W = (((((((w2.setCell ⟨w.heap.size, 0, none⟩ (.int .i64 i0)).setCell ⟨w.heap.size, 1, none⟩ (.int .i64 i1)).setCell ⟨w.heap.size, 2, none⟩ (.int .i64 i2)).setCell ⟨w.heap.size, 3, none⟩ (.int .i64 i3)).setCell ⟨w.heap.size, 4, none⟩ (.string i4)).setCell ⟨w.heap.size, 5, none⟩ (.int .i64 i5)).setCell ⟨w.heap.size, 6, none⟩ (.int .i64 i6))) : Mid w #[.int .i64 i0, .int .i64 i1, .int .i64 i2, .int .i64 i3, .string i4, .int .i64 i5, .int .i64 i6] z (l ++ l2) v' w3 := by
  have hs := h.two.size
  have hWs : W.heap.size = w2.heap.size := by rw [hW]; simp [World.setCell]
  have hown : W.ownsRow (w.heap.size + 2) 3 1 v l.length (ints l) := by
    rw [hW]
    repeat (refine own_set ?_ _ (by simp) _)
    exact own_below h.own hb (Nat.le_refl _)
  have hbel := ha.below hown (by have := hb.size; omega)
  have hbW : Below w.heap.size w W := by
    rw [hW]
    repeat (refine Below.setCell ?_ (by simp) _)
    exact bthen h.two.below hb
  refine ⟨⟨hbW.trans (hbel.mono (by omega)), ?_, ?_, ?_⟩, ?_⟩
  · rw [hbel.block _ (by omega), hW]
    have h1 : w2.heap[w.heap.size]? = some (.cells st 92 (0, 0)) := (hb.block _ (by omega)).trans h.two.hx
    obtain ⟨a0, a1, a2, a3, a4, a5, a6, rfl⟩ : ∃ a0 a1 a2 a3 a4 a5 a6, st = #[a0, a1, a2, a3, a4, a5, a6] := by
      rcases st with ⟨l⟩
      match l, hst with
      | [a0, a1, a2, a3, a4, a5, a6], _ => exact ⟨a0, a1, a2, a3, a4, a5, a6, rfl⟩
    exact set7 h1
  · rw [hbel.block _ (by omega), hW]
    repeat rw [Go.Deep.blk_setCell_other _ _ _ _ (by simp)]
    exact (hb.block _ (by omega)).trans h.two.hy
  · have h1 := hb.size
    have h2 := ha.grown.size
    omega
  · have := ha.own
    rw [ints_app, ← List.length_append] at this
    exact this

theorem Mid.grow {w wr W w3 : World} {st z : Array Value} {l l2 : List Int} {v v' : Value} (h : Mid w st z l v wr) (hb : Below wr.heap.size wr W)
    (ha : Appd W (w.heap.size + 2) v (l.length + l2.length) (ints l ++ ints l2) v' w3) : Mid w st z (l ++ l2) v' w3 := by
  have hs := h.two.size
  have hown : W.ownsRow (w.heap.size + 2) 3 1 v l.length (ints l) := own_below h.own hb (Nat.le_refl _)
  have hbel := ha.below hown (by have := hb.size; omega)
  have hbW : Below w.heap.size w W := bthen h.two.below hb
  refine ⟨⟨hbW.trans (hbel.mono (by omega)), ?_, ?_, ?_⟩, ?_⟩
  · rw [hbel.block _ (by omega)]
    exact (hb.block _ (by omega)).trans h.two.hx
  · rw [hbel.block _ (by omega)]
    exact (hb.block _ (by omega)).trans h.two.hy
  · have h1 := hb.size
    have h2 := ha.grown.size
    omega
  · have := ha.own
    rw [ints_app, ← List.length_append] at this
    exact this

/-- what Step and Feed answer. -/
def AnsS (w : World) (s : St) (l : List Int) (e : Ending) (w' : World) : Prop :=
  (∃ v, e = .returned (.tuple #[stV s, v, .int .i64 0]) ∧ w'.ownsRow w.heap.size 3 1 v l.length (ints l)) ∧ Below w.heap.size w w'
theorem ansS_of {w w3 : World} {s s0 : St} {l l0 : List Int} {z : Array Value} {v : Value} (hs : s0 = s) (hl : l0 = l) (hm : Mid w (stCells s) z l v w3) :
    AnsS w s0 l0 (.returned (.tuple #[.agg #[.int .i64 s.need, .int .i64 s.code, .int .i64 s.fr, .int .i64 s.to, .string ⟨s.kept.toArray⟩, .int .i64 s.half, .int .i64 s.mode], v, .int .i64 0])) (((((((w3.setCell ⟨(w.heap.size + 1), 0, none⟩ (.int .i64 s.need)).setCell ⟨(w.heap.size + 1), 1, none⟩ (.int .i64 s.code)).setCell ⟨(w.heap.size + 1), 2, none⟩ (.int .i64 s.fr)).setCell ⟨(w.heap.size + 1), 3, none⟩ (.int .i64 s.to)).setCell ⟨(w.heap.size + 1), 4, none⟩ (.string ⟨s.kept.toArray⟩)).setCell ⟨(w.heap.size + 1), 5, none⟩ (.int .i64 s.half)).setCell ⟨(w.heap.size + 1), 6, none⟩ (.int .i64 s.mode)) := by
  subst hs hl
  refine ⟨⟨_, rfl, ?_⟩, ?_⟩
  · refine World.ownsRow.mono (base := w.heap.size + 2) ?_ (by omega)
    repeat (refine own_set ?_ _ (by simp) _)
    exact hm.own
  · repeat (refine Below.setCell ?_ (by simp) _)
    exact hm.two.below

theorem take_no {e : Int} {c : UInt8} {j : Nat} {st s' : St} {l o : List Int} {R : St × List Int} (hj : j < 3) (h : Pl.dTake e c (3 - j) st l = R) (hr : Pl.dOne e st c = (s', o, false)) : R = (s', l ++ o) := by
  obtain ⟨n, hn⟩ : ∃ n, 3 - j = n + 1 := ⟨2 - j, by omega⟩
  rw [hn] at h
  unfold Pl.dTake at h
  rw [hr] at h
  exact h.symm
theorem take_yes {e : Int} {c : UInt8} {j : Nat} {st s' : St} {l o : List Int} {R : St × List Int} (hj : j < 3) (h : Pl.dTake e c (3 - j) st l = R) (hr : Pl.dOne e st c = (s', o, true)) : Pl.dTake e c (3 - (j + 1)) s' (l ++ o) = R := by
  obtain ⟨n, hn⟩ : ∃ n, 3 - j = n + 1 := ⟨2 - j, by omega⟩
  have h2 : 3 - (j + 1) = n := by omega
  rw [hn] at h
  unfold Pl.dTake at h
  rw [hr] at h
  rw [h2]
  exact h

set_option maxRecDepth 100000 in
set_option maxHeartbeats 4000000 in
theorem step_1 (s : St) (c : UInt8) (w : World) (hok : dOk 1 s) :
    Calls Tryd.prog 91 #[.int .i64 1, stV s, .int .i64 (c.toNat : Int)] w fun e w' => AnsS w (Pl.dStep 1 s c).1 (Pl.dStep 1 s c).2 e w' := by
  have HD := Lib.hid hok
  clear hok
  obtain ⟨b, hb⟩ : ∃ b : Nat, c.toNat = b := ⟨_, rfl⟩
  have hb2 : (b : Int) ≤ 255 := by have := c.toNat_lt; omega
  have HB := Lib.hid hb
  rw [hb]
  clear hb
  unfold stV
  go_enter Tryd.func91, Tryd.ntmps91
  go_wp2_with fail
  refine (good_any 1 s _ HD.out).mono ?_
  rintro e1 w1 ⟨rfl, hb1⟩
  have T1 : Two w (stCells s) (stCells st0) 92 w1 := Two.of (hb1.mono (by simp))
  have HT := Lib.hid T1
  clear hb1 T1
  go_wp2_with fail
  go_loopw [9, 34] (fun v i wr => ∃ (j : Nat) (st : St) (l : List Int), i = .int .i64 j ∧ j ≤ 3 ∧ Hid (dOk 1 st) ∧ Hid (Pl.dTake 1 c (3 - j) st l = Pl.dStep 1 s c) ∧ Hid (l.length ≤ 2 * j) ∧ Hid (Mid w (stCells st) (stCells st0) l v wr)) (fun _ i _ => 3 - (intOf i).toNat)
  case atStart => exact ⟨0, s, [], rfl, by omega, HD, Lib.hid rfl, Lib.hid (by simp), Lib.hid ⟨HT.out, World.ownsRow_nil _ _ _ _⟩⟩
  case round =>
    obtain ⟨j, st, l, rfl, hj, HK, HR, HL, HM⟩ := hrel
    obtain ⟨fx, fy, fz, fw⟩ := HM.out.two.cells
    simp only [stCells] at fx
    have hs := HM.out.two.size
    by_cases hlt : j < 3
    · obtain ⟨s', o, ag, hr⟩ : ∃ s' o ag, Pl.dOne 1 st c = (s', o, ag) := ⟨_, _, _, rfl⟩
      have HC : Hid (∀ W, Calls Tryd.prog 109 #[stV st, .int .i64 (b : Int)] W fun e w' => Ans W (s', o, ag) e w') := Lib.hid fun W => by
        have h := utf_any st c W HK.out
        rw [HB.out] at h
        rwa [show Pl.dUtf st c = (s', o, ag) from hr] at h
      have HO := Lib.hid hr
      have HK2 : Hid (dOk 1 s') := Lib.hid (by have := Pl.dOne_ok 1 st c HK.out; rwa [hr] at this)
      have HOl : Hid (o.length ≤ 2) := Lib.hid (by have := Pl.dOne_len 1 st c; rwa [hr] at this)
      clear hr
      cases ag
      · go_wp2_with fail
        refine (HC.out _).mono ?_
        rintro e2 w2 ⟨⟨v2, rfl, hown2⟩, hb2'⟩
        have HO2 := Lib.hid hown2
        have HB2 := Lib.hid hb2'
        have hs2 := hb2'.size
        obtain ⟨fx2, fy2, fz2, fw2⟩ := (show Two w (stCells st) (stCells st0) 92 w2 from ⟨bthen HM.out.two.below hb2', (hb2'.block _ (by omega)).trans HM.out.two.hx, (hb2'.block _ (by omega)).trans HM.out.two.hy, by omega⟩).cells
        simp only [stCells] at fx2
        clear hown2 hb2' fx fy fz fw
        simp only [stV]
        go_wp2_with (first
          | (at_builtin
             with_reducible refine gate_append ?_
             refine wpList_app (by rfl) _ _ (by rfl) (w.heap.size + 2) wr.heap.size _ _ l.length o.length (ints l) (ints o) (by rfl) (by rfl) ?g1 ?g2 (ints_one _) ?g3 ?g4 ?g5
             case g1 => ((repeat (refine own_set ?_ _ (by simp) _)); exact own_below HM.out.own HB2.out (Nat.le_refl _))
             case g2 => ((repeat (refine own_set ?_ _ (by simp; try omega) _)); exact HO2.out)
             case g3 => (have := HL.out; have := HOl.out; omega)
             case g4 => (simp [World.setCell]; try omega)
             intro v3 w3 HA3
             have hM3 := Mid.next (l2 := o) s'.need s'.code s'.fr s'.to ⟨s'.kept.toArray⟩ s'.half s'.mode HM.out rfl HB2.out HA3 rfl
             have HM3 : Hid (Mid w (stCells s') (stCells st0) (l ++ o) v3 w3) := Lib.hid hM3
             obtain ⟨fx3, fy3, fz3, fw3⟩ := hM3.two.cells
             simp only [stCells] at fy3
             have hs3 := hM3.two.size
             clear HA3 fx2 fy2 fz2 fw2 hM3))
        refine bodyPost_ret (by simp [results, Tryd.results91, go_sem, fy3]; rfl) rfl ?_
        have hR := take_no hlt HR.out HO.out
        have hM3 := HM3.out
        have hA := ansS_of (s0 := (Pl.dStep 1 s c).1) (l0 := (Pl.dStep 1 s c).2) (by rw [hR]) (by rw [hR]) hM3
        exact hA
      · go_wp2_with fail
        refine (HC.out _).mono ?_
        rintro e2 w2 ⟨⟨v2, rfl, hown2⟩, hb2'⟩
        have HO2 := Lib.hid hown2
        have HB2 := Lib.hid hb2'
        have hs2 := hb2'.size
        obtain ⟨fx2, fy2, fz2, fw2⟩ := (show Two w (stCells st) (stCells st0) 92 w2 from ⟨bthen HM.out.two.below hb2', (hb2'.block _ (by omega)).trans HM.out.two.hx, (hb2'.block _ (by omega)).trans HM.out.two.hy, by omega⟩).cells
        simp only [stCells] at fx2
        clear hown2 hb2' fx fy fz fw
        simp only [stV]
        go_wp2_with (first
          | (at_builtin
             with_reducible refine gate_append ?_
             refine wpList_app (by rfl) _ _ (by rfl) (w.heap.size + 2) wr.heap.size _ _ l.length o.length (ints l) (ints o) (by rfl) (by rfl) ?k1 ?k2 (ints_one _) ?k3 ?k4 ?k5
             case k1 => ((repeat (refine own_set ?_ _ (by simp) _)); exact own_below HM.out.own HB2.out (Nat.le_refl _))
             case k2 => ((repeat (refine own_set ?_ _ (by simp; try omega) _)); exact HO2.out)
             case k3 => (have := HL.out; have := HOl.out; omega)
             case k4 => (simp [World.setCell]; try omega)
             intro v3 w3 HA3
             have hM3 := Mid.next (l2 := o) s'.need s'.code s'.fr s'.to ⟨s'.kept.toArray⟩ s'.half s'.mode HM.out rfl HB2.out HA3 rfl
             have HM3 : Hid (Mid w (stCells s') (stCells st0) (l ++ o) v3 w3) := Lib.hid hM3
             obtain ⟨fx3, fy3, fz3, fw3⟩ := hM3.two.cells
             simp only [stCells] at fy3
             have hs3 := hM3.two.size
             clear HA3 fx2 fy2 fz2 fw2 hM3 fx3 fy3 fz3 fw3))
        refine ⟨⟨j + 1, s', l ++ o, ?_, by omega, HK2, ?_, ?_, HM3⟩, by simp [intOf]; omega⟩
        · go_num
        · have h := take_yes hlt HR.out HO.out
          exact Lib.hid h
        · have h1 := HL.out
          have h2 := HOl.out
          exact Lib.hid (by rw [List.length_append]; omega)
    · have hj3 : j = 3 := by omega
      subst hj3
      simp only [stCells] at fy
      go_wp2_with fail
      refine bodyPost_ret (by simp [results, Tryd.results91, go_sem, fy]; rfl) rfl ?_
      have hR := HR.out
      have hR : (st, l) = Pl.dStep 1 s c := hR
      have hM := HM.out
      have hA := ansS_of (s0 := (Pl.dStep 1 s c).1) (l0 := (Pl.dStep 1 s c).2) (by rw [← hR]) (by rw [← hR]) hM
      exact hA
end Go.Proofs.YtefohnbmifblkaaDoor
