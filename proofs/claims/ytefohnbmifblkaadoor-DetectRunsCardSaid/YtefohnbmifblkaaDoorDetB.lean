/-
  The walk of a detector's verdict: it returns what the plain function vd says; nothing is changed.
-/
import Derived.Test.YtefohnbmifblkaaDoorScA
import Derived.Laws.BytesArg
namespace Go.Proofs.YtefohnbmifblkaaDoor
open Go.RowKit

/-- the verdict on what there is. -/
def vd (d : DS) : Int × Int × Bool :=
  if (Pl.mark d.bs).1 ≠ 0 then ((Pl.mark d.bs).1, 1, true)
  else if d.hint ≠ 0 then (d.hint, 2, !(Pl.mayMark d.bs && !d.ended))
  else if (Pl.label d.bs).1 ≠ 0 then ((Pl.label d.bs).1, 3, !(Pl.mayMark d.bs && !d.ended))
  else if bestTo d.sc 6 ≠ 0 then ((bestTo d.sc 6 : Int), 4, d.ended)
  else (4, 0, d.ended)

/-- a string of the bytes of a row of the call's own. -/
theorem own_string {P : Program} {src dst e : TypeId} (hs : P.underlying src = some (.slice e)) (he : P.underlying e = some (.int .u8)) (hd : P.underlying dst = some .string) {w : World} {base : Nat} {v : Value} {l : List UInt8}
    (h : w.ownsRow base e 1 v l.length (byteVals l)) : (convert src dst v).run P w = .ok (.string ⟨l.toArray⟩) w := by
  rcases h.2 with ⟨rfl, h0⟩ | ⟨g, cap, cur, rfl, _, hh, hnc, _, hsz, hcur⟩
  · have hl : l = [] := List.eq_nil_of_length_eq_zero h0
    subst hl
    exact run_convert_bytes_nil w src e hs he 0 0 dst hd
  · refine run_convert_bytes_back w src dst e ⟨g, 0, none⟩ cap l hs he hd fun j hj => ?_
    have e1 : (⟨g, 0, none⟩ : Addr).add j = ⟨g, j, none⟩ := by unfold Addr.add; split <;> simp_all
    rw [e1]
    unfold World.cell?
    rw [hh]
    show cur[j]? = _
    have h2 : cur.toList[j]? = (byteVals l)[j]? := by
      rw [← hcur, List.getElem?_take, if_pos (by omega)]
    rw [← Array.getElem?_toList, h2]
    simp [byteVals, List.getElem?_eq_getElem hj]

/-- Below, out of either of the two. -/
theorem below_of {a b : World} (h : Drew a b) : Below a.heap.size a b := h.below

/-- a later world in which the call's two own rows stand as they were laid. -/
structure Loc2 (w : World) (x y : Array Value) (t : TypeId) (w1 : World) : Prop where
  below : Below w.heap.size w w1
  hx : w1.heap[w.heap.size]? = some (.cells x t (0, 0))
  hy : w1.heap[w.heap.size + 1]? = some (.cells y t (0, 0))
  size : w.heap.size + 2 ≤ w1.heap.size
theorem Loc2.of {w w1 : World} {x y : Array Value} {t : TypeId} (h : Below ((w.alloc (.cells x t)).alloc (.cells y t)).heap.size ((w.alloc (.cells x t)).alloc (.cells y t)) w1) : Loc2 w x y t w1 := by
  have hs := h.size
  simp only [World.size_alloc] at hs
  refine ⟨bthen (two_new w _ _) h, ?_, ?_, by omega⟩
  · rw [h.block _ (by simp only [World.size_alloc]; omega)]
    show ((w.alloc (.cells x t)).heap.push _)[_]? = _
    rw [Array.getElem?_push, if_neg (by rw [World.size_alloc]; omega)]
    exact heap_alloc_new w _
  · rw [h.block _ (by simp only [World.size_alloc]; omega)]
    have := heap_alloc_new (w.alloc (.cells x t)) (.cells y t)
    simpa only [World.size_alloc] using this
theorem Loc2.next {w w1 w2 : World} {x y : Array Value} {t : TypeId} (h : Loc2 w x y t w1) (k : Below w1.heap.size w1 w2) : Loc2 w x y t w2 :=
  ⟨bthen h.below k, (k.block _ (by have := h.size; omega)).trans h.hx, (k.block _ (by have := h.size; omega)).trans h.hy, Nat.le_trans h.size k.size⟩
theorem Loc2.cells {w w1 : World} {x y : Array Value} {t : TypeId} (h : Loc2 w x y t w1) :
    (∀ k, w1.cell? ⟨w.heap.size, k, none⟩ = x[k]?) ∧ (∀ k, w1.cell? ⟨w.heap.size + 1, k, none⟩ = y[k]?) ∧ (∀ k, w1.frozen? ⟨w.heap.size, k, none⟩ = false) ∧ (∀ k, w1.frozen? ⟨w.heap.size + 1, k, none⟩ = false) :=
  ⟨fun k => cell_of_row w1 _ k _ _ _ h.hx, fun k => cell_of_row w1 _ k _ _ _ h.hy, fun _ => by unfold World.frozen?; simp [h.hx], fun _ => by unfold World.frozen?; simp [h.hy]⟩
theorem Loc2.old {w w1 : World} {x y : Array Value} {t : TypeId} (h : Loc2 w x y t w1) {p : Addr} {v : Value} (hc : w.cell? p = some v) (hp : p.block < w.heap.size) : w1.cell? p = some v :=
  (h.below.cell hp).trans hc


set_option maxRecDepth 100000 in
set_option maxHeartbeats 4000000 in
theorem verdict_mark_false (base b : Nat) (o : Option Nat) (d : DS) (w : World) (hdet : Det base w b o d) (hg : Gl w) (hl : d.bs.length ≤ 4000) (hq : Pl.mayMark d.bs = false) (m n : Int) (hm : Pl.mark d.bs = (m, n)) (hm0 : m ≠ 0) :
    Calls Tryd.prog 47 #[.pointer (some ⟨b, 0, none⟩)] w fun e w' => e = .returned (.agg #[.int .i64 m, .int .i64 1, .bool true]) ∧ Below w.heap.size w w' := by
  obtain ⟨_, v, hblk, hown, _⟩ := hdet
  have HG := Lib.hid hg
  clear hg
  have hb : b < w.heap.size := (Array.getElem?_eq_some_iff.1 hblk).1
  have hconv := own_string (P := Tryd.prog) Tryd.underlying69 Tryd.underlying5 Tryd.underlying9 (hown.alloc (.cells #[.int .i64 0, .int .i64 0, .bool false] 35))
  have hc := fun k => cell_of_row w b k _ _ _ hblk
  have c0 : w.cell? ⟨b, 0, none⟩ = some (.int .i64 d.hint) := hc 0
  have c1 : w.cell? ⟨b, 1, none⟩ = some v := hc 1
  have c17 : w.cell? ⟨b, 17, none⟩ = some (.bool d.ended) := hc 17
  clear hc hown hblk
  have HZ := Lib.hid (show (⟨d.bs.toArray⟩ : ByteArray).size ≤ maxLen by show d.bs.toArray.size ≤ _; unfold maxLen; simp; omega)
  have HQ := Lib.hid hq
  have HM := Lib.hid hm
  have hmb : (m != 0) = true := by rw [bne_iff_ne]; exact hm0
  clear hq hm hm0
  go_enter Tryd.func47, Tryd.ntmps47
  go_wp2_with fail
  refine (mayMark_any _ _ (HG.out.below (two_new _ _ _)) HZ.out).mono ?_
  rintro e w1 ⟨rfl, hd1⟩
  rw [show (⟨d.bs.toArray⟩ : ByteArray).data.toList = d.bs from rfl, HQ.out]
  have L1 : Loc2 w _ _ _ w1 := Loc2.of (below_of hd1)
  obtain ⟨fx1, fy1, fz1, fw1⟩ := L1.cells
  have e1_17 := L1.old c17 hb
  have e1_0 := L1.old c0 hb
  have hz1 := L1.size
  go_wp2_with fail
  refine (mark_any _ _ (HG.out.below L1.below)).mono ?_
  rintro e w2 ⟨rfl, hd2⟩
  rw [show (⟨d.bs.toArray⟩ : ByteArray).data.toList = d.bs from rfl, HM.out]
  have L2 := L1.next hd2.below
  obtain ⟨fx2, fy2, fz2, fw2⟩ := L2.cells
  have e2_17 := L2.old c17 hb
  have e2_0 := L2.old c0 hb
  have hz2 := L2.size
  go_wp2_with fail
  refine bodyPost_ret (v := .agg #[.int .i64 m, .int .i64 1, .bool true]) (by simp [results, Tryd.results47, go_sem, fx2]) rfl ⟨rfl, ?_⟩
  have hLb := L2.below
  have hLz := L2.size
  repeat (first | exact hLb | exact Below.refl _ _ | refine Below.alloc ?_ (by simp; omega) _ | refine Below.setCell ?_ (by simp) _)

set_option maxRecDepth 100000 in
set_option maxHeartbeats 4000000 in
theorem verdict_hint_false (base b : Nat) (o : Option Nat) (d : DS) (w : World) (hdet : Det base w b o d) (hg : Gl w) (hl : d.bs.length ≤ 4000) (hq : Pl.mayMark d.bs = false) (n : Int) (hm : Pl.mark d.bs = (0, n)) (hh : d.hint ≠ 0) :
    Calls Tryd.prog 47 #[.pointer (some ⟨b, 0, none⟩)] w fun e w' => e = .returned (.agg #[.int .i64 d.hint, .int .i64 2, .bool true]) ∧ Below w.heap.size w w' := by
  obtain ⟨_, v, hblk, hown, _⟩ := hdet
  have HG := Lib.hid hg
  clear hg
  have hb : b < w.heap.size := (Array.getElem?_eq_some_iff.1 hblk).1
  have hconv := own_string (P := Tryd.prog) Tryd.underlying69 Tryd.underlying5 Tryd.underlying9 (hown.alloc (.cells #[.int .i64 0, .int .i64 0, .bool false] 35))
  have hc := fun k => cell_of_row w b k _ _ _ hblk
  have c0 : w.cell? ⟨b, 0, none⟩ = some (.int .i64 d.hint) := hc 0
  have c1 : w.cell? ⟨b, 1, none⟩ = some v := hc 1
  have c17 : w.cell? ⟨b, 17, none⟩ = some (.bool d.ended) := hc 17
  clear hc hown hblk
  have HZ := Lib.hid (show (⟨d.bs.toArray⟩ : ByteArray).size ≤ maxLen by show d.bs.toArray.size ≤ _; unfold maxLen; simp; omega)
  have HQ := Lib.hid hq
  have HM := Lib.hid hm
  have hmb : (d.hint != 0) = true := by rw [bne_iff_ne]; exact hh
  clear hq hm hh
  go_enter Tryd.func47, Tryd.ntmps47
  go_wp2_with fail
  refine (mayMark_any _ _ (HG.out.below (two_new _ _ _)) HZ.out).mono ?_
  rintro e w1 ⟨rfl, hd1⟩
  rw [show (⟨d.bs.toArray⟩ : ByteArray).data.toList = d.bs from rfl, HQ.out]
  have L1 : Loc2 w _ _ _ w1 := Loc2.of (below_of hd1)
  obtain ⟨fx1, fy1, fz1, fw1⟩ := L1.cells
  have e1_17 := L1.old c17 hb
  have e1_0 := L1.old c0 hb
  have hz1 := L1.size
  go_wp2_with fail
  refine (mark_any _ _ (HG.out.below L1.below)).mono ?_
  rintro e w2 ⟨rfl, hd2⟩
  rw [show (⟨d.bs.toArray⟩ : ByteArray).data.toList = d.bs from rfl, HM.out]
  have L2 := L1.next hd2.below
  obtain ⟨fx2, fy2, fz2, fw2⟩ := L2.cells
  have e2_17 := L2.old c17 hb
  have e2_0 := L2.old c0 hb
  have hz2 := L2.size
  go_wp2_with fail
  refine bodyPost_ret (v := .agg #[.int .i64 d.hint, .int .i64 2, .bool true]) (by simp [results, Tryd.results47, go_sem, fx2]) rfl ⟨rfl, ?_⟩
  have hLb := L2.below
  have hLz := L2.size
  repeat (first | exact hLb | exact Below.refl _ _ | refine Below.alloc ?_ (by simp; omega) _ | refine Below.setCell ?_ (by simp) _)

set_option maxRecDepth 100000 in
set_option maxHeartbeats 4000000 in
theorem verdict_label_false (base b : Nat) (o : Option Nat) (d : DS) (w : World) (hdet : Det base w b o d) (hg : Gl w) (hl : d.bs.length ≤ 4000) (hq : Pl.mayMark d.bs = false) (n : Int) (hm : Pl.mark d.bs = (0, n)) (hh : d.hint = 0) (l : Int) (f : Bool) (hlb : Pl.label d.bs = (l, f)) (hl0 : l ≠ 0) :
    Calls Tryd.prog 47 #[.pointer (some ⟨b, 0, none⟩)] w fun e w' => e = .returned (.agg #[.int .i64 l, .int .i64 3, .bool true]) ∧ Below w.heap.size w w' := by
  obtain ⟨_, v, hblk, hown, _⟩ := hdet
  have HG := Lib.hid hg
  clear hg
  have hb : b < w.heap.size := (Array.getElem?_eq_some_iff.1 hblk).1
  have hconv := own_string (P := Tryd.prog) Tryd.underlying69 Tryd.underlying5 Tryd.underlying9 (hown.alloc (.cells #[.int .i64 0, .int .i64 0, .bool false] 35))
  have hc := fun k => cell_of_row w b k _ _ _ hblk
  have c0 : w.cell? ⟨b, 0, none⟩ = some (.int .i64 d.hint) := hc 0
  have c1 : w.cell? ⟨b, 1, none⟩ = some v := hc 1
  have c17 : w.cell? ⟨b, 17, none⟩ = some (.bool d.ended) := hc 17
  clear hc hown hblk
  have HZ := Lib.hid (show (⟨d.bs.toArray⟩ : ByteArray).size ≤ maxLen by show d.bs.toArray.size ≤ _; unfold maxLen; simp; omega)
  have HQ := Lib.hid hq
  have HM := Lib.hid hm
  have HL := Lib.hid hlb
  have hmb : (l != 0) = true := by rw [bne_iff_ne]; exact hl0
  rw [hh] at c0
  clear hq hm hlb hl0 hh
  go_enter Tryd.func47, Tryd.ntmps47
  go_wp2_with fail
  refine (mayMark_any _ _ (HG.out.below (two_new _ _ _)) HZ.out).mono ?_
  rintro e w1 ⟨rfl, hd1⟩
  rw [show (⟨d.bs.toArray⟩ : ByteArray).data.toList = d.bs from rfl, HQ.out]
  have L1 : Loc2 w _ _ _ w1 := Loc2.of (below_of hd1)
  obtain ⟨fx1, fy1, fz1, fw1⟩ := L1.cells
  have e1_17 := L1.old c17 hb
  have e1_0 := L1.old c0 hb
  have hz1 := L1.size
  go_wp2_with fail
  refine (mark_any _ _ (HG.out.below L1.below)).mono ?_
  rintro e w2 ⟨rfl, hd2⟩
  rw [show (⟨d.bs.toArray⟩ : ByteArray).data.toList = d.bs from rfl, HM.out]
  have L2 := L1.next hd2.below
  obtain ⟨fx2, fy2, fz2, fw2⟩ := L2.cells
  have e2_17 := L2.old c17 hb
  have e2_0 := L2.old c0 hb
  have hz2 := L2.size
  go_wp2_with fail
  refine (labelFn_any _ _ HZ.out).mono ?_
  rintro e w3 ⟨rfl, hd3⟩
  rw [show (⟨d.bs.toArray⟩ : ByteArray).data.toList = d.bs from rfl, HL.out]
  have L3 := L2.next hd3
  obtain ⟨fx3, fy3, fz3, fw3⟩ := L3.cells
  have e3_17 := L3.old c17 hb
  have e3_0 := L3.old c0 hb
  have hz3 := L3.size
  go_wp2_with fail
  refine bodyPost_ret (v := .agg #[.int .i64 l, .int .i64 3, .bool true]) (by simp [results, Tryd.results47, go_sem, fx3]) rfl ⟨rfl, ?_⟩
  have hLb := L3.below
  have hLz := L3.size
  repeat (first | exact hLb | exact Below.refl _ _ | refine Below.alloc ?_ (by simp; omega) _ | refine Below.setCell ?_ (by simp) _)

set_option maxRecDepth 100000 in
set_option maxHeartbeats 4000000 in
theorem verdict_best_false (base b : Nat) (o : Option Nat) (d : DS) (w : World) (hdet : Det base w b o d) (hg : Gl w) (hl : d.bs.length ≤ 4000) (hq : Pl.mayMark d.bs = false) (n : Int) (hm : Pl.mark d.bs = (0, n)) (hh : d.hint = 0) (f : Bool) (hlb : Pl.label d.bs = (0, f)) (B : Nat) (hB : bestTo d.sc 6 = B) (hB0 : (B : Int) ≠ 0) :
    Calls Tryd.prog 47 #[.pointer (some ⟨b, 0, none⟩)] w fun e w' => e = .returned (.agg #[.int .i64 B, .int .i64 4, .bool d.ended]) ∧ Below w.heap.size w w' := by
  obtain ⟨_, v, hblk, hown, _⟩ := hdet
  have HG := Lib.hid hg
  clear hg
  have hb : b < w.heap.size := (Array.getElem?_eq_some_iff.1 hblk).1
  have hconv := own_string (P := Tryd.prog) Tryd.underlying69 Tryd.underlying5 Tryd.underlying9 (hown.alloc (.cells #[.int .i64 0, .int .i64 0, .bool false] 35))
  have hc := fun k => cell_of_row w b k _ _ _ hblk
  have c0 : w.cell? ⟨b, 0, none⟩ = some (.int .i64 d.hint) := hc 0
  have c1 : w.cell? ⟨b, 1, none⟩ = some v := hc 1
  have c17 : w.cell? ⟨b, 17, none⟩ = some (.bool d.ended) := hc 17
  have s0 : w.cell? ⟨b, 2, none⟩ = some (.int .i64 (d.sc 0)) := hc 2
  have s1 : w.cell? ⟨b, 3, none⟩ = some (.int .i64 (d.sc 1)) := hc 3
  have s2 : w.cell? ⟨b, 4, none⟩ = some (.int .i64 (d.sc 2)) := hc 4
  have s3 : w.cell? ⟨b, 5, none⟩ = some (.int .i64 (d.sc 3)) := hc 5
  have s4 : w.cell? ⟨b, 6, none⟩ = some (.int .i64 (d.sc 4)) := hc 6
  have s5 : w.cell? ⟨b, 7, none⟩ = some (.int .i64 (d.sc 5)) := hc 7
  have s6 : w.cell? ⟨b, 8, none⟩ = some (.int .i64 (d.sc 6)) := hc 8
  have s7 : w.cell? ⟨b, 9, none⟩ = some (.int .i64 (d.sc 7)) := hc 9
  have s8 : w.cell? ⟨b, 10, none⟩ = some (.int .i64 (d.sc 8)) := hc 10
  have s9 : w.cell? ⟨b, 11, none⟩ = some (.int .i64 (d.sc 9)) := hc 11
  have s10 : w.cell? ⟨b, 12, none⟩ = some (.int .i64 (d.sc 10)) := hc 12
  have s11 : w.cell? ⟨b, 13, none⟩ = some (.int .i64 (d.sc 11)) := hc 13
  have s12 : w.cell? ⟨b, 14, none⟩ = some (.int .i64 (d.sc 12)) := hc 14
  have s13 : w.cell? ⟨b, 15, none⟩ = some (.int .i64 (d.sc 13)) := hc 15
  clear hc hown hblk
  have HZ := Lib.hid (show (⟨d.bs.toArray⟩ : ByteArray).size ≤ maxLen by show d.bs.toArray.size ≤ _; unfold maxLen; simp; omega)
  have HQ := Lib.hid hq
  have HM := Lib.hid hm
  have HL := Lib.hid hlb
  have HB := Lib.hid hB
  have hmb : ((B : Int) != 0) = true := by rw [bne_iff_ne]; exact hB0
  rw [hh] at c0
  clear hq hm hlb hB hB0 hh
  go_enter Tryd.func47, Tryd.ntmps47
  go_wp2_with fail
  refine (mayMark_any _ _ (HG.out.below (two_new _ _ _)) HZ.out).mono ?_
  rintro e w1 ⟨rfl, hd1⟩
  rw [show (⟨d.bs.toArray⟩ : ByteArray).data.toList = d.bs from rfl, HQ.out]
  have L1 : Loc2 w _ _ _ w1 := Loc2.of (below_of hd1)
  obtain ⟨fx1, fy1, fz1, fw1⟩ := L1.cells
  have e1_17 := L1.old c17 hb
  have e1_0 := L1.old c0 hb
  have hz1 := L1.size
  go_wp2_with fail
  refine (mark_any _ _ (HG.out.below L1.below)).mono ?_
  rintro e w2 ⟨rfl, hd2⟩
  rw [show (⟨d.bs.toArray⟩ : ByteArray).data.toList = d.bs from rfl, HM.out]
  have L2 := L1.next hd2.below
  obtain ⟨fx2, fy2, fz2, fw2⟩ := L2.cells
  have e2_17 := L2.old c17 hb
  have e2_0 := L2.old c0 hb
  have hz2 := L2.size
  go_wp2_with fail
  refine (labelFn_any _ _ HZ.out).mono ?_
  rintro e w3 ⟨rfl, hd3⟩
  rw [show (⟨d.bs.toArray⟩ : ByteArray).data.toList = d.bs from rfl, HL.out]
  have L3 := L2.next hd3
  obtain ⟨fx3, fy3, fz3, fw3⟩ := L3.cells
  have e3_17 := L3.old c17 hb
  have e3_0 := L3.old c0 hb
  have e3_2 := L3.old s0 hb
  have e3_3 := L3.old s1 hb
  have e3_4 := L3.old s2 hb
  have e3_5 := L3.old s3 hb
  have e3_6 := L3.old s4 hb
  have e3_7 := L3.old s5 hb
  have e3_8 := L3.old s6 hb
  have e3_9 := L3.old s7 hb
  have e3_10 := L3.old s8 hb
  have e3_11 := L3.old s9 hb
  have e3_12 := L3.old s10 hb
  have e3_13 := L3.old s11 hb
  have e3_14 := L3.old s12 hb
  have e3_15 := L3.old s13 hb
  have hz3 := L3.size
  go_wp2_with fail
  refine (best_any d.sc _).mono ?_
  rintro e w4 ⟨rfl, hd4⟩
  rw [HB.out]
  have L4 := L3.next hd4
  obtain ⟨fx4, fy4, fz4, fw4⟩ := L4.cells
  have e4_17 := L4.old c17 hb
  have e4_0 := L4.old c0 hb
  have hz4 := L4.size
  go_wp2_with fail
  refine bodyPost_ret (v := .agg #[.int .i64 B, .int .i64 4, .bool d.ended]) (by simp [results, Tryd.results47, go_sem, fx4]) rfl ⟨rfl, ?_⟩
  have hLb := L4.below
  have hLz := L4.size
  repeat (first | exact hLb | exact Below.refl _ _ | refine Below.alloc ?_ (by simp; omega) _ | refine Below.setCell ?_ (by simp) _)

set_option maxRecDepth 100000 in
set_option maxHeartbeats 4000000 in
theorem verdict_none_false (base b : Nat) (o : Option Nat) (d : DS) (w : World) (hdet : Det base w b o d) (hg : Gl w) (hl : d.bs.length ≤ 4000) (hq : Pl.mayMark d.bs = false) (n : Int) (hm : Pl.mark d.bs = (0, n)) (hh : d.hint = 0) (f : Bool) (hlb : Pl.label d.bs = (0, f)) (hB : bestTo d.sc 6 = 0) :
    Calls Tryd.prog 47 #[.pointer (some ⟨b, 0, none⟩)] w fun e w' => e = .returned (.agg #[.int .i64 4, .int .i64 0, .bool d.ended]) ∧ Below w.heap.size w w' := by
  obtain ⟨_, v, hblk, hown, _⟩ := hdet
  have HG := Lib.hid hg
  clear hg
  have hb : b < w.heap.size := (Array.getElem?_eq_some_iff.1 hblk).1
  have hconv := own_string (P := Tryd.prog) Tryd.underlying69 Tryd.underlying5 Tryd.underlying9 (hown.alloc (.cells #[.int .i64 0, .int .i64 0, .bool false] 35))
  have hc := fun k => cell_of_row w b k _ _ _ hblk
  have c0 : w.cell? ⟨b, 0, none⟩ = some (.int .i64 d.hint) := hc 0
  have c1 : w.cell? ⟨b, 1, none⟩ = some v := hc 1
  have c17 : w.cell? ⟨b, 17, none⟩ = some (.bool d.ended) := hc 17
  have s0 : w.cell? ⟨b, 2, none⟩ = some (.int .i64 (d.sc 0)) := hc 2
  have s1 : w.cell? ⟨b, 3, none⟩ = some (.int .i64 (d.sc 1)) := hc 3
  have s2 : w.cell? ⟨b, 4, none⟩ = some (.int .i64 (d.sc 2)) := hc 4
  have s3 : w.cell? ⟨b, 5, none⟩ = some (.int .i64 (d.sc 3)) := hc 5
  have s4 : w.cell? ⟨b, 6, none⟩ = some (.int .i64 (d.sc 4)) := hc 6
  have s5 : w.cell? ⟨b, 7, none⟩ = some (.int .i64 (d.sc 5)) := hc 7
  have s6 : w.cell? ⟨b, 8, none⟩ = some (.int .i64 (d.sc 6)) := hc 8
  have s7 : w.cell? ⟨b, 9, none⟩ = some (.int .i64 (d.sc 7)) := hc 9
  have s8 : w.cell? ⟨b, 10, none⟩ = some (.int .i64 (d.sc 8)) := hc 10
  have s9 : w.cell? ⟨b, 11, none⟩ = some (.int .i64 (d.sc 9)) := hc 11
  have s10 : w.cell? ⟨b, 12, none⟩ = some (.int .i64 (d.sc 10)) := hc 12
  have s11 : w.cell? ⟨b, 13, none⟩ = some (.int .i64 (d.sc 11)) := hc 13
  have s12 : w.cell? ⟨b, 14, none⟩ = some (.int .i64 (d.sc 12)) := hc 14
  have s13 : w.cell? ⟨b, 15, none⟩ = some (.int .i64 (d.sc 13)) := hc 15
  clear hc hown hblk
  have HZ := Lib.hid (show (⟨d.bs.toArray⟩ : ByteArray).size ≤ maxLen by show d.bs.toArray.size ≤ _; unfold maxLen; simp; omega)
  have HQ := Lib.hid hq
  have HM := Lib.hid hm
  have HL := Lib.hid hlb
  have HB := Lib.hid hB
  rw [hh] at c0
  clear hq hm hlb hB hh
  go_enter Tryd.func47, Tryd.ntmps47
  go_wp2_with fail
  refine (mayMark_any _ _ (HG.out.below (two_new _ _ _)) HZ.out).mono ?_
  rintro e w1 ⟨rfl, hd1⟩
  rw [show (⟨d.bs.toArray⟩ : ByteArray).data.toList = d.bs from rfl, HQ.out]
  have L1 : Loc2 w _ _ _ w1 := Loc2.of (below_of hd1)
  obtain ⟨fx1, fy1, fz1, fw1⟩ := L1.cells
  have e1_17 := L1.old c17 hb
  have e1_0 := L1.old c0 hb
  have hz1 := L1.size
  go_wp2_with fail
  refine (mark_any _ _ (HG.out.below L1.below)).mono ?_
  rintro e w2 ⟨rfl, hd2⟩
  rw [show (⟨d.bs.toArray⟩ : ByteArray).data.toList = d.bs from rfl, HM.out]
  have L2 := L1.next hd2.below
  obtain ⟨fx2, fy2, fz2, fw2⟩ := L2.cells
  have e2_17 := L2.old c17 hb
  have e2_0 := L2.old c0 hb
  have hz2 := L2.size
  go_wp2_with fail
  refine (labelFn_any _ _ HZ.out).mono ?_
  rintro e w3 ⟨rfl, hd3⟩
  rw [show (⟨d.bs.toArray⟩ : ByteArray).data.toList = d.bs from rfl, HL.out]
  have L3 := L2.next hd3
  obtain ⟨fx3, fy3, fz3, fw3⟩ := L3.cells
  have e3_17 := L3.old c17 hb
  have e3_0 := L3.old c0 hb
  have e3_2 := L3.old s0 hb
  have e3_3 := L3.old s1 hb
  have e3_4 := L3.old s2 hb
  have e3_5 := L3.old s3 hb
  have e3_6 := L3.old s4 hb
  have e3_7 := L3.old s5 hb
  have e3_8 := L3.old s6 hb
  have e3_9 := L3.old s7 hb
  have e3_10 := L3.old s8 hb
  have e3_11 := L3.old s9 hb
  have e3_12 := L3.old s10 hb
  have e3_13 := L3.old s11 hb
  have e3_14 := L3.old s12 hb
  have e3_15 := L3.old s13 hb
  have hz3 := L3.size
  go_wp2_with fail
  refine (best_any d.sc _).mono ?_
  rintro e w4 ⟨rfl, hd4⟩
  rw [HB.out]
  have L4 := L3.next hd4
  obtain ⟨fx4, fy4, fz4, fw4⟩ := L4.cells
  have e4_17 := L4.old c17 hb
  have e4_0 := L4.old c0 hb
  have hz4 := L4.size
  go_wp2_with fail
  refine bodyPost_ret (v := .agg #[.int .i64 4, .int .i64 0, .bool d.ended]) (by simp [results, Tryd.results47, go_sem, fx4]) rfl ⟨rfl, ?_⟩
  have hLb := L4.below
  have hLz := L4.size
  repeat (first | exact hLb | exact Below.refl _ _ | refine Below.alloc ?_ (by simp; omega) _ | refine Below.setCell ?_ (by simp) _)

set_option maxRecDepth 100000 in
set_option maxHeartbeats 4000000 in
theorem verdict_mark_true (base b : Nat) (o : Option Nat) (d : DS) (w : World) (hdet : Det base w b o d) (hg : Gl w) (hl : d.bs.length ≤ 4000) (hq : Pl.mayMark d.bs = true) (m n : Int) (hm : Pl.mark d.bs = (m, n)) (hm0 : m ≠ 0) :
    Calls Tryd.prog 47 #[.pointer (some ⟨b, 0, none⟩)] w fun e w' => e = .returned (.agg #[.int .i64 m, .int .i64 1, .bool true]) ∧ Below w.heap.size w w' := by
  obtain ⟨_, v, hblk, hown, _⟩ := hdet
  have HG := Lib.hid hg
  clear hg
  have hb : b < w.heap.size := (Array.getElem?_eq_some_iff.1 hblk).1
  have hconv := own_string (P := Tryd.prog) Tryd.underlying69 Tryd.underlying5 Tryd.underlying9 (hown.alloc (.cells #[.int .i64 0, .int .i64 0, .bool false] 35))
  have hc := fun k => cell_of_row w b k _ _ _ hblk
  have c0 : w.cell? ⟨b, 0, none⟩ = some (.int .i64 d.hint) := hc 0
  have c1 : w.cell? ⟨b, 1, none⟩ = some v := hc 1
  have c17 : w.cell? ⟨b, 17, none⟩ = some (.bool d.ended) := hc 17
  clear hc hown hblk
  have HZ := Lib.hid (show (⟨d.bs.toArray⟩ : ByteArray).size ≤ maxLen by show d.bs.toArray.size ≤ _; unfold maxLen; simp; omega)
  have HQ := Lib.hid hq
  have HM := Lib.hid hm
  have hmb : (m != 0) = true := by rw [bne_iff_ne]; exact hm0
  clear hq hm hm0
  go_enter Tryd.func47, Tryd.ntmps47
  go_wp2_with fail
  refine (mayMark_any _ _ (HG.out.below (two_new _ _ _)) HZ.out).mono ?_
  rintro e w1 ⟨rfl, hd1⟩
  rw [show (⟨d.bs.toArray⟩ : ByteArray).data.toList = d.bs from rfl, HQ.out]
  have L1 : Loc2 w _ _ _ w1 := Loc2.of (below_of hd1)
  obtain ⟨fx1, fy1, fz1, fw1⟩ := L1.cells
  have e1_17 := L1.old c17 hb
  have e1_0 := L1.old c0 hb
  have hz1 := L1.size
  go_wp2_with fail
  refine (mark_any _ _ (HG.out.below L1.below)).mono ?_
  rintro e w2 ⟨rfl, hd2⟩
  rw [show (⟨d.bs.toArray⟩ : ByteArray).data.toList = d.bs from rfl, HM.out]
  have L2 := L1.next hd2.below
  obtain ⟨fx2, fy2, fz2, fw2⟩ := L2.cells
  have e2_17 := L2.old c17 hb
  have e2_0 := L2.old c0 hb
  have hz2 := L2.size
  go_wp2_with fail
  refine bodyPost_ret (v := .agg #[.int .i64 m, .int .i64 1, .bool true]) (by simp [results, Tryd.results47, go_sem, fx2]) rfl ⟨rfl, ?_⟩
  have hLb := L2.below
  have hLz := L2.size
  repeat (first | exact hLb | exact Below.refl _ _ | refine Below.alloc ?_ (by simp; omega) _ | refine Below.setCell ?_ (by simp) _)

set_option maxRecDepth 100000 in
set_option maxHeartbeats 4000000 in
theorem verdict_hint_true (base b : Nat) (o : Option Nat) (d : DS) (w : World) (hdet : Det base w b o d) (hg : Gl w) (hl : d.bs.length ≤ 4000) (hq : Pl.mayMark d.bs = true) (n : Int) (hm : Pl.mark d.bs = (0, n)) (hh : d.hint ≠ 0) :
    Calls Tryd.prog 47 #[.pointer (some ⟨b, 0, none⟩)] w fun e w' => e = .returned (.agg #[.int .i64 d.hint, .int .i64 2, .bool d.ended]) ∧ Below w.heap.size w w' := by
  obtain ⟨_, v, hblk, hown, _⟩ := hdet
  have HG := Lib.hid hg
  clear hg
  have hb : b < w.heap.size := (Array.getElem?_eq_some_iff.1 hblk).1
  have hconv := own_string (P := Tryd.prog) Tryd.underlying69 Tryd.underlying5 Tryd.underlying9 (hown.alloc (.cells #[.int .i64 0, .int .i64 0, .bool false] 35))
  have hc := fun k => cell_of_row w b k _ _ _ hblk
  have c0 : w.cell? ⟨b, 0, none⟩ = some (.int .i64 d.hint) := hc 0
  have c1 : w.cell? ⟨b, 1, none⟩ = some v := hc 1
  have c17 : w.cell? ⟨b, 17, none⟩ = some (.bool d.ended) := hc 17
  clear hc hown hblk
  have HZ := Lib.hid (show (⟨d.bs.toArray⟩ : ByteArray).size ≤ maxLen by show d.bs.toArray.size ≤ _; unfold maxLen; simp; omega)
  have HQ := Lib.hid hq
  have HM := Lib.hid hm
  have hmb : (d.hint != 0) = true := by rw [bne_iff_ne]; exact hh
  clear hq hm hh
  go_enter Tryd.func47, Tryd.ntmps47
  go_wp2_with fail
  refine (mayMark_any _ _ (HG.out.below (two_new _ _ _)) HZ.out).mono ?_
  rintro e w1 ⟨rfl, hd1⟩
  rw [show (⟨d.bs.toArray⟩ : ByteArray).data.toList = d.bs from rfl, HQ.out]
  have L1 : Loc2 w _ _ _ w1 := Loc2.of (below_of hd1)
  obtain ⟨fx1, fy1, fz1, fw1⟩ := L1.cells
  have e1_17 := L1.old c17 hb
  have e1_0 := L1.old c0 hb
  have hz1 := L1.size
  go_wp2_with fail
  refine (mark_any _ _ (HG.out.below L1.below)).mono ?_
  rintro e w2 ⟨rfl, hd2⟩
  rw [show (⟨d.bs.toArray⟩ : ByteArray).data.toList = d.bs from rfl, HM.out]
  have L2 := L1.next hd2.below
  obtain ⟨fx2, fy2, fz2, fw2⟩ := L2.cells
  have e2_17 := L2.old c17 hb
  have e2_0 := L2.old c0 hb
  have hz2 := L2.size
  go_wp2_with fail
  refine bodyPost_ret (v := .agg #[.int .i64 d.hint, .int .i64 2, .bool d.ended]) (by simp [results, Tryd.results47, go_sem, fx2]) rfl ⟨rfl, ?_⟩
  have hLb := L2.below
  have hLz := L2.size
  repeat (first | exact hLb | exact Below.refl _ _ | refine Below.alloc ?_ (by simp; omega) _ | refine Below.setCell ?_ (by simp) _)

set_option maxRecDepth 100000 in
set_option maxHeartbeats 4000000 in
theorem verdict_label_true (base b : Nat) (o : Option Nat) (d : DS) (w : World) (hdet : Det base w b o d) (hg : Gl w) (hl : d.bs.length ≤ 4000) (hq : Pl.mayMark d.bs = true) (n : Int) (hm : Pl.mark d.bs = (0, n)) (hh : d.hint = 0) (l : Int) (f : Bool) (hlb : Pl.label d.bs = (l, f)) (hl0 : l ≠ 0) :
    Calls Tryd.prog 47 #[.pointer (some ⟨b, 0, none⟩)] w fun e w' => e = .returned (.agg #[.int .i64 l, .int .i64 3, .bool d.ended]) ∧ Below w.heap.size w w' := by
  obtain ⟨_, v, hblk, hown, _⟩ := hdet
  have HG := Lib.hid hg
  clear hg
  have hb : b < w.heap.size := (Array.getElem?_eq_some_iff.1 hblk).1
  have hconv := own_string (P := Tryd.prog) Tryd.underlying69 Tryd.underlying5 Tryd.underlying9 (hown.alloc (.cells #[.int .i64 0, .int .i64 0, .bool false] 35))
  have hc := fun k => cell_of_row w b k _ _ _ hblk
  have c0 : w.cell? ⟨b, 0, none⟩ = some (.int .i64 d.hint) := hc 0
  have c1 : w.cell? ⟨b, 1, none⟩ = some v := hc 1
  have c17 : w.cell? ⟨b, 17, none⟩ = some (.bool d.ended) := hc 17
  clear hc hown hblk
  have HZ := Lib.hid (show (⟨d.bs.toArray⟩ : ByteArray).size ≤ maxLen by show d.bs.toArray.size ≤ _; unfold maxLen; simp; omega)
  have HQ := Lib.hid hq
  have HM := Lib.hid hm
  have HL := Lib.hid hlb
  have hmb : (l != 0) = true := by rw [bne_iff_ne]; exact hl0
  rw [hh] at c0
  clear hq hm hlb hl0 hh
  go_enter Tryd.func47, Tryd.ntmps47
  go_wp2_with fail
  refine (mayMark_any _ _ (HG.out.below (two_new _ _ _)) HZ.out).mono ?_
  rintro e w1 ⟨rfl, hd1⟩
  rw [show (⟨d.bs.toArray⟩ : ByteArray).data.toList = d.bs from rfl, HQ.out]
  have L1 : Loc2 w _ _ _ w1 := Loc2.of (below_of hd1)
  obtain ⟨fx1, fy1, fz1, fw1⟩ := L1.cells
  have e1_17 := L1.old c17 hb
  have e1_0 := L1.old c0 hb
  have hz1 := L1.size
  go_wp2_with fail
  refine (mark_any _ _ (HG.out.below L1.below)).mono ?_
  rintro e w2 ⟨rfl, hd2⟩
  rw [show (⟨d.bs.toArray⟩ : ByteArray).data.toList = d.bs from rfl, HM.out]
  have L2 := L1.next hd2.below
  obtain ⟨fx2, fy2, fz2, fw2⟩ := L2.cells
  have e2_17 := L2.old c17 hb
  have e2_0 := L2.old c0 hb
  have hz2 := L2.size
  go_wp2_with fail
  refine (labelFn_any _ _ HZ.out).mono ?_
  rintro e w3 ⟨rfl, hd3⟩
  rw [show (⟨d.bs.toArray⟩ : ByteArray).data.toList = d.bs from rfl, HL.out]
  have L3 := L2.next hd3
  obtain ⟨fx3, fy3, fz3, fw3⟩ := L3.cells
  have e3_17 := L3.old c17 hb
  have e3_0 := L3.old c0 hb
  have hz3 := L3.size
  go_wp2_with fail
  refine bodyPost_ret (v := .agg #[.int .i64 l, .int .i64 3, .bool d.ended]) (by simp [results, Tryd.results47, go_sem, fx3]) rfl ⟨rfl, ?_⟩
  have hLb := L3.below
  have hLz := L3.size
  repeat (first | exact hLb | exact Below.refl _ _ | refine Below.alloc ?_ (by simp; omega) _ | refine Below.setCell ?_ (by simp) _)

set_option maxRecDepth 100000 in
set_option maxHeartbeats 4000000 in
theorem verdict_best_true (base b : Nat) (o : Option Nat) (d : DS) (w : World) (hdet : Det base w b o d) (hg : Gl w) (hl : d.bs.length ≤ 4000) (hq : Pl.mayMark d.bs = true) (n : Int) (hm : Pl.mark d.bs = (0, n)) (hh : d.hint = 0) (f : Bool) (hlb : Pl.label d.bs = (0, f)) (B : Nat) (hB : bestTo d.sc 6 = B) (hB0 : (B : Int) ≠ 0) :
    Calls Tryd.prog 47 #[.pointer (some ⟨b, 0, none⟩)] w fun e w' => e = .returned (.agg #[.int .i64 B, .int .i64 4, .bool d.ended]) ∧ Below w.heap.size w w' := by
  obtain ⟨_, v, hblk, hown, _⟩ := hdet
  have HG := Lib.hid hg
  clear hg
  have hb : b < w.heap.size := (Array.getElem?_eq_some_iff.1 hblk).1
  have hconv := own_string (P := Tryd.prog) Tryd.underlying69 Tryd.underlying5 Tryd.underlying9 (hown.alloc (.cells #[.int .i64 0, .int .i64 0, .bool false] 35))
  have hc := fun k => cell_of_row w b k _ _ _ hblk
  have c0 : w.cell? ⟨b, 0, none⟩ = some (.int .i64 d.hint) := hc 0
  have c1 : w.cell? ⟨b, 1, none⟩ = some v := hc 1
  have c17 : w.cell? ⟨b, 17, none⟩ = some (.bool d.ended) := hc 17
  have s0 : w.cell? ⟨b, 2, none⟩ = some (.int .i64 (d.sc 0)) := hc 2
  have s1 : w.cell? ⟨b, 3, none⟩ = some (.int .i64 (d.sc 1)) := hc 3
  have s2 : w.cell? ⟨b, 4, none⟩ = some (.int .i64 (d.sc 2)) := hc 4
  have s3 : w.cell? ⟨b, 5, none⟩ = some (.int .i64 (d.sc 3)) := hc 5
  have s4 : w.cell? ⟨b, 6, none⟩ = some (.int .i64 (d.sc 4)) := hc 6
  have s5 : w.cell? ⟨b, 7, none⟩ = some (.int .i64 (d.sc 5)) := hc 7
  have s6 : w.cell? ⟨b, 8, none⟩ = some (.int .i64 (d.sc 6)) := hc 8
  have s7 : w.cell? ⟨b, 9, none⟩ = some (.int .i64 (d.sc 7)) := hc 9
  have s8 : w.cell? ⟨b, 10, none⟩ = some (.int .i64 (d.sc 8)) := hc 10
  have s9 : w.cell? ⟨b, 11, none⟩ = some (.int .i64 (d.sc 9)) := hc 11
  have s10 : w.cell? ⟨b, 12, none⟩ = some (.int .i64 (d.sc 10)) := hc 12
  have s11 : w.cell? ⟨b, 13, none⟩ = some (.int .i64 (d.sc 11)) := hc 13
  have s12 : w.cell? ⟨b, 14, none⟩ = some (.int .i64 (d.sc 12)) := hc 14
  have s13 : w.cell? ⟨b, 15, none⟩ = some (.int .i64 (d.sc 13)) := hc 15
  clear hc hown hblk
  have HZ := Lib.hid (show (⟨d.bs.toArray⟩ : ByteArray).size ≤ maxLen by show d.bs.toArray.size ≤ _; unfold maxLen; simp; omega)
  have HQ := Lib.hid hq
  have HM := Lib.hid hm
  have HL := Lib.hid hlb
  have HB := Lib.hid hB
  have hmb : ((B : Int) != 0) = true := by rw [bne_iff_ne]; exact hB0
  rw [hh] at c0
  clear hq hm hlb hB hB0 hh
  go_enter Tryd.func47, Tryd.ntmps47
  go_wp2_with fail
  refine (mayMark_any _ _ (HG.out.below (two_new _ _ _)) HZ.out).mono ?_
  rintro e w1 ⟨rfl, hd1⟩
  rw [show (⟨d.bs.toArray⟩ : ByteArray).data.toList = d.bs from rfl, HQ.out]
  have L1 : Loc2 w _ _ _ w1 := Loc2.of (below_of hd1)
  obtain ⟨fx1, fy1, fz1, fw1⟩ := L1.cells
  have e1_17 := L1.old c17 hb
  have e1_0 := L1.old c0 hb
  have hz1 := L1.size
  go_wp2_with fail
  refine (mark_any _ _ (HG.out.below L1.below)).mono ?_
  rintro e w2 ⟨rfl, hd2⟩
  rw [show (⟨d.bs.toArray⟩ : ByteArray).data.toList = d.bs from rfl, HM.out]
  have L2 := L1.next hd2.below
  obtain ⟨fx2, fy2, fz2, fw2⟩ := L2.cells
  have e2_17 := L2.old c17 hb
  have e2_0 := L2.old c0 hb
  have hz2 := L2.size
  go_wp2_with fail
  refine (labelFn_any _ _ HZ.out).mono ?_
  rintro e w3 ⟨rfl, hd3⟩
  rw [show (⟨d.bs.toArray⟩ : ByteArray).data.toList = d.bs from rfl, HL.out]
  have L3 := L2.next hd3
  obtain ⟨fx3, fy3, fz3, fw3⟩ := L3.cells
  have e3_17 := L3.old c17 hb
  have e3_0 := L3.old c0 hb
  have e3_2 := L3.old s0 hb
  have e3_3 := L3.old s1 hb
  have e3_4 := L3.old s2 hb
  have e3_5 := L3.old s3 hb
  have e3_6 := L3.old s4 hb
  have e3_7 := L3.old s5 hb
  have e3_8 := L3.old s6 hb
  have e3_9 := L3.old s7 hb
  have e3_10 := L3.old s8 hb
  have e3_11 := L3.old s9 hb
  have e3_12 := L3.old s10 hb
  have e3_13 := L3.old s11 hb
  have e3_14 := L3.old s12 hb
  have e3_15 := L3.old s13 hb
  have hz3 := L3.size
  go_wp2_with fail
  refine (best_any d.sc _).mono ?_
  rintro e w4 ⟨rfl, hd4⟩
  rw [HB.out]
  have L4 := L3.next hd4
  obtain ⟨fx4, fy4, fz4, fw4⟩ := L4.cells
  have e4_17 := L4.old c17 hb
  have e4_0 := L4.old c0 hb
  have hz4 := L4.size
  go_wp2_with fail
  refine bodyPost_ret (v := .agg #[.int .i64 B, .int .i64 4, .bool d.ended]) (by simp [results, Tryd.results47, go_sem, fx4]) rfl ⟨rfl, ?_⟩
  have hLb := L4.below
  have hLz := L4.size
  repeat (first | exact hLb | exact Below.refl _ _ | refine Below.alloc ?_ (by simp; omega) _ | refine Below.setCell ?_ (by simp) _)

set_option maxRecDepth 100000 in
set_option maxHeartbeats 4000000 in
theorem verdict_none_true (base b : Nat) (o : Option Nat) (d : DS) (w : World) (hdet : Det base w b o d) (hg : Gl w) (hl : d.bs.length ≤ 4000) (hq : Pl.mayMark d.bs = true) (n : Int) (hm : Pl.mark d.bs = (0, n)) (hh : d.hint = 0) (f : Bool) (hlb : Pl.label d.bs = (0, f)) (hB : bestTo d.sc 6 = 0) :
    Calls Tryd.prog 47 #[.pointer (some ⟨b, 0, none⟩)] w fun e w' => e = .returned (.agg #[.int .i64 4, .int .i64 0, .bool d.ended]) ∧ Below w.heap.size w w' := by
  obtain ⟨_, v, hblk, hown, _⟩ := hdet
  have HG := Lib.hid hg
  clear hg
  have hb : b < w.heap.size := (Array.getElem?_eq_some_iff.1 hblk).1
  have hconv := own_string (P := Tryd.prog) Tryd.underlying69 Tryd.underlying5 Tryd.underlying9 (hown.alloc (.cells #[.int .i64 0, .int .i64 0, .bool false] 35))
  have hc := fun k => cell_of_row w b k _ _ _ hblk
  have c0 : w.cell? ⟨b, 0, none⟩ = some (.int .i64 d.hint) := hc 0
  have c1 : w.cell? ⟨b, 1, none⟩ = some v := hc 1
  have c17 : w.cell? ⟨b, 17, none⟩ = some (.bool d.ended) := hc 17
  have s0 : w.cell? ⟨b, 2, none⟩ = some (.int .i64 (d.sc 0)) := hc 2
  have s1 : w.cell? ⟨b, 3, none⟩ = some (.int .i64 (d.sc 1)) := hc 3
  have s2 : w.cell? ⟨b, 4, none⟩ = some (.int .i64 (d.sc 2)) := hc 4
  have s3 : w.cell? ⟨b, 5, none⟩ = some (.int .i64 (d.sc 3)) := hc 5
  have s4 : w.cell? ⟨b, 6, none⟩ = some (.int .i64 (d.sc 4)) := hc 6
  have s5 : w.cell? ⟨b, 7, none⟩ = some (.int .i64 (d.sc 5)) := hc 7
  have s6 : w.cell? ⟨b, 8, none⟩ = some (.int .i64 (d.sc 6)) := hc 8
  have s7 : w.cell? ⟨b, 9, none⟩ = some (.int .i64 (d.sc 7)) := hc 9
  have s8 : w.cell? ⟨b, 10, none⟩ = some (.int .i64 (d.sc 8)) := hc 10
  have s9 : w.cell? ⟨b, 11, none⟩ = some (.int .i64 (d.sc 9)) := hc 11
  have s10 : w.cell? ⟨b, 12, none⟩ = some (.int .i64 (d.sc 10)) := hc 12
  have s11 : w.cell? ⟨b, 13, none⟩ = some (.int .i64 (d.sc 11)) := hc 13
  have s12 : w.cell? ⟨b, 14, none⟩ = some (.int .i64 (d.sc 12)) := hc 14
  have s13 : w.cell? ⟨b, 15, none⟩ = some (.int .i64 (d.sc 13)) := hc 15
  clear hc hown hblk
  have HZ := Lib.hid (show (⟨d.bs.toArray⟩ : ByteArray).size ≤ maxLen by show d.bs.toArray.size ≤ _; unfold maxLen; simp; omega)
  have HQ := Lib.hid hq
  have HM := Lib.hid hm
  have HL := Lib.hid hlb
  have HB := Lib.hid hB
  rw [hh] at c0
  clear hq hm hlb hB hh
  go_enter Tryd.func47, Tryd.ntmps47
  go_wp2_with fail
  refine (mayMark_any _ _ (HG.out.below (two_new _ _ _)) HZ.out).mono ?_
  rintro e w1 ⟨rfl, hd1⟩
  rw [show (⟨d.bs.toArray⟩ : ByteArray).data.toList = d.bs from rfl, HQ.out]
  have L1 : Loc2 w _ _ _ w1 := Loc2.of (below_of hd1)
  obtain ⟨fx1, fy1, fz1, fw1⟩ := L1.cells
  have e1_17 := L1.old c17 hb
  have e1_0 := L1.old c0 hb
  have hz1 := L1.size
  go_wp2_with fail
  refine (mark_any _ _ (HG.out.below L1.below)).mono ?_
  rintro e w2 ⟨rfl, hd2⟩
  rw [show (⟨d.bs.toArray⟩ : ByteArray).data.toList = d.bs from rfl, HM.out]
  have L2 := L1.next hd2.below
  obtain ⟨fx2, fy2, fz2, fw2⟩ := L2.cells
  have e2_17 := L2.old c17 hb
  have e2_0 := L2.old c0 hb
  have hz2 := L2.size
  go_wp2_with fail
  refine (labelFn_any _ _ HZ.out).mono ?_
  rintro e w3 ⟨rfl, hd3⟩
  rw [show (⟨d.bs.toArray⟩ : ByteArray).data.toList = d.bs from rfl, HL.out]
  have L3 := L2.next hd3
  obtain ⟨fx3, fy3, fz3, fw3⟩ := L3.cells
  have e3_17 := L3.old c17 hb
  have e3_0 := L3.old c0 hb
  have e3_2 := L3.old s0 hb
  have e3_3 := L3.old s1 hb
  have e3_4 := L3.old s2 hb
  have e3_5 := L3.old s3 hb
  have e3_6 := L3.old s4 hb
  have e3_7 := L3.old s5 hb
  have e3_8 := L3.old s6 hb
  have e3_9 := L3.old s7 hb
  have e3_10 := L3.old s8 hb
  have e3_11 := L3.old s9 hb
  have e3_12 := L3.old s10 hb
  have e3_13 := L3.old s11 hb
  have e3_14 := L3.old s12 hb
  have e3_15 := L3.old s13 hb
  have hz3 := L3.size
  go_wp2_with fail
  refine (best_any d.sc _).mono ?_
  rintro e w4 ⟨rfl, hd4⟩
  rw [HB.out]
  have L4 := L3.next hd4
  obtain ⟨fx4, fy4, fz4, fw4⟩ := L4.cells
  have e4_17 := L4.old c17 hb
  have e4_0 := L4.old c0 hb
  have hz4 := L4.size
  go_wp2_with fail
  refine bodyPost_ret (v := .agg #[.int .i64 4, .int .i64 0, .bool d.ended]) (by simp [results, Tryd.results47, go_sem, fx4]) rfl ⟨rfl, ?_⟩
  have hLb := L4.below
  have hLz := L4.size
  repeat (first | exact hLb | exact Below.refl _ _ | refine Below.alloc ?_ (by simp; omega) _ | refine Below.setCell ?_ (by simp) _)

theorem verdict_any (base b : Nat) (o : Option Nat) (d : DS) (w : World) (hdet : Det base w b o d) (hg : Gl w) (hl : d.bs.length ≤ 4000) :
    Calls Tryd.prog 47 #[.pointer (some ⟨b, 0, none⟩)] w fun e w' => e = .returned (.agg #[.int .i64 (vd d).1, .int .i64 (vd d).2.1, .bool (vd d).2.2]) ∧ Below w.heap.size w w' := by
  rcases hm : Pl.mark d.bs with ⟨m, n⟩
  rcases hlb : Pl.label d.bs with ⟨l, f⟩
  by_cases h1 : m = 0
  · subst h1
    by_cases h2 : d.hint = 0
    · by_cases h3 : l = 0
      · subst h3
        by_cases h4 : bestTo d.sc 6 = 0
        · have hv : vd d = (4, 0, d.ended) := by simp [vd, hm, hlb, h2, h4]
          rw [hv]
          cases hq : Pl.mayMark d.bs
          · exact verdict_none_false base b o d w hdet hg hl hq n hm h2 f hlb h4
          · exact verdict_none_true base b o d w hdet hg hl hq n hm h2 f hlb h4
        · have hv : vd d = ((bestTo d.sc 6 : Int), 4, d.ended) := by simp [vd, hm, hlb, h2, h4]
          rw [hv]
          cases hq : Pl.mayMark d.bs
          · exact verdict_best_false base b o d w hdet hg hl hq n hm h2 f hlb _ rfl (by omega)
          · exact verdict_best_true base b o d w hdet hg hl hq n hm h2 f hlb _ rfl (by omega)
      · cases hq : Pl.mayMark d.bs
        · have hv : vd d = (l, 3, true) := by simp [vd, hm, hlb, h2, h3, hq]
          rw [hv]
          exact verdict_label_false base b o d w hdet hg hl hq n hm h2 l f hlb h3
        · have hv : vd d = (l, 3, d.ended) := by simp [vd, hm, hlb, h2, h3, hq]
          rw [hv]
          exact verdict_label_true base b o d w hdet hg hl hq n hm h2 l f hlb h3
    · cases hq : Pl.mayMark d.bs
      · have hv : vd d = (d.hint, 2, true) := by simp [vd, hm, h2, hq]
        rw [hv]
        exact verdict_hint_false base b o d w hdet hg hl hq n hm h2
      · have hv : vd d = (d.hint, 2, d.ended) := by simp [vd, hm, h2, hq]
        rw [hv]
        exact verdict_hint_true base b o d w hdet hg hl hq n hm h2
  · have hv : vd d = (m, 1, true) := by simp [vd, hm, h1]
    rw [hv]
    cases hq : Pl.mayMark d.bs
    · exact verdict_mark_false base b o d w hdet hg hl hq m n hm h1
    · exact verdict_mark_true base b o d w hdet hg hl hq m n hm h1
end Go.Proofs.YtefohnbmifblkaaDoor
