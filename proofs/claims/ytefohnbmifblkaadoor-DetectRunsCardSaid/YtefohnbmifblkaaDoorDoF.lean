/-
  detect.Do at feed.
-/
import Derived.Test.YtefohnbmifblkaaDoorDoA
import Derived.Test.YtefohnbmifblkaaDoorDoD
import Derived.Deep.RegionWith
import Derived.Test.YtefohnbmifblkaaDoorApp
import Derived.Deep.RegionLaw
namespace Go.Proofs.YtefohnbmifblkaaDoor
open Go.RowKit
attribute [local go_sem ↓] Go.wp_at_zero Go.wp_at_succ

/-- a detector in the midst of a feed. -/
def mid (d : DS) (sc : Nat → Int) (last : Int) : DS := { d with acts := d.acts + 1, sc := sc, last := last }
/-- a world of the feed's loop. -/
structure Lp (w : World) (base b : Nat) (o : Option Nat) (d : DS) (bs : ByteArray) (v : Value) (sc : Nat → Int) (last : Int) (wr : World) : Prop where
  low : base ≤ b
  own : wr.ownsRow base 5 1 v d.bs.length (byteVals d.bs)
  vo : v.ownBlock = o
  blk : wr.heap[b]? = some (.cells (detCells (mid d sc last) v) 75 (0, 0))
  keep : Keep w wr b o
  act : wr.heap[w.heap.size]? = some (.cells #[.int .i64 1, .string bs] 30 (0, 0))
  rep : wr.heap[w.heap.size + 1]? = some (.cells #[.int .i64 0, .int .i64 0, .int .i64 0, .bool false, .slice none 0 0] 38 (0, 0))
  size : w.heap.size + 2 ≤ wr.heap.size
theorem Lp.det {w : World} {base b : Nat} {o : Option Nat} {d : DS} {bs : ByteArray} {v : Value} {sc : Nat → Int} {last : Int} {wr : World} (h : Lp w base b o d bs v sc last wr) : Det base wr b o (mid d sc last) :=
  ⟨h.low, v, h.blk, h.own, h.vo⟩
theorem Lp.below {w : World} {base b : Nat} {o : Option Nat} {d : DS} {bs : ByteArray} {v : Value} {sc : Nat → Int} {last : Int} {wr w2 : World} (h : Lp w base b o d bs v sc last wr) (hb : Below wr.heap.size wr w2) : Lp w base b o d bs v sc last w2 := by
  have hs := h.size
  have hl := h.det.lt
  exact ⟨h.low, own_below h.own hb (Nat.le_refl _), h.vo, (hb.block _ hl).trans h.blk, h.keep.bel hb, (hb.block _ (by omega)).trans h.act, (hb.block _ (by omega)).trans h.rep, Nat.le_trans hs hb.size⟩
theorem Lp.one {w : World} {base b : Nat} {o : Option Nat} {d : DS} {bs : ByteArray} {v : Value} {sc sc2 : Nat → Int} {last last2 : Int} {w2 : World} (h : Lp w base b o d bs v sc last w2) (hb : b < w.heap.size) (k : Nat) (x : Value) (hx : (detCells (mid d sc last) v).setIfInBounds k x = detCells (mid d sc2 last2) v) : Lp w base b o d bs v sc2 last2 (w2.setCell ⟨b, k, none⟩ x) := by
  have hap : o ≠ some b := h.det.apart
  refine ⟨h.low, own_far h.own _ (by rw [h.vo]; exact hap) _, h.vo, (row_setCell h.blk x).trans (by rw [hx]), h.keep.set (.inl rfl) _, (Go.Deep.blk_setCell_other _ _ _ _ (by simp; omega)).trans h.act, (Go.Deep.blk_setCell_other _ _ _ _ (by simp; omega)).trans h.rep, ?_⟩
  have hs := h.size
  simp [World.setCell]
  omega
/-- the first j of the scores are new. -/
def half2 (sc sc2 : Nat → Int) (j : Nat) : Nat → Int := fun i => if i < j then sc2 i else sc i
theorem Lp.scores {w : World} {base b : Nat} {o : Option Nat} {d : DS} {bs : ByteArray} {v : Value} {sc : Nat → Int} {last : Int} {w2 : World} (sc2 : Nat → Int) (h : Lp w base b o d bs v sc last w2) (hb : b < w.heap.size) :
    Lp w base b o d bs v sc2 last ((((((((((((((w2.setCell ⟨b, 2, none⟩ (.int .i64 (sc2 0))).setCell ⟨b, 3, none⟩ (.int .i64 (sc2 1))).setCell ⟨b, 4, none⟩ (.int .i64 (sc2 2))).setCell ⟨b, 5, none⟩ (.int .i64 (sc2 3))).setCell ⟨b, 6, none⟩ (.int .i64 (sc2 4))).setCell ⟨b, 7, none⟩ (.int .i64 (sc2 5))).setCell ⟨b, 8, none⟩ (.int .i64 (sc2 6))).setCell ⟨b, 9, none⟩ (.int .i64 (sc2 7))).setCell ⟨b, 10, none⟩ (.int .i64 (sc2 8))).setCell ⟨b, 11, none⟩ (.int .i64 (sc2 9))).setCell ⟨b, 12, none⟩ (.int .i64 (sc2 10))).setCell ⟨b, 13, none⟩ (.int .i64 (sc2 11))).setCell ⟨b, 14, none⟩ (.int .i64 (sc2 12))).setCell ⟨b, 15, none⟩ (.int .i64 (sc2 13))) := by
  have h0 : Lp w base b o d bs v (half2 sc sc2 0) last w2 := h
  have h1 : Lp w base b o d bs v (half2 sc sc2 1) last (w2.setCell ⟨b, 2, none⟩ (.int .i64 (sc2 0))) := Lp.one h0 hb 2 _ rfl
  have h2 : Lp w base b o d bs v (half2 sc sc2 2) last ((w2.setCell ⟨b, 2, none⟩ (.int .i64 (sc2 0))).setCell ⟨b, 3, none⟩ (.int .i64 (sc2 1))) := Lp.one h1 hb 3 _ rfl
  have h3 : Lp w base b o d bs v (half2 sc sc2 3) last (((w2.setCell ⟨b, 2, none⟩ (.int .i64 (sc2 0))).setCell ⟨b, 3, none⟩ (.int .i64 (sc2 1))).setCell ⟨b, 4, none⟩ (.int .i64 (sc2 2))) := Lp.one h2 hb 4 _ rfl
  have h4 : Lp w base b o d bs v (half2 sc sc2 4) last ((((w2.setCell ⟨b, 2, none⟩ (.int .i64 (sc2 0))).setCell ⟨b, 3, none⟩ (.int .i64 (sc2 1))).setCell ⟨b, 4, none⟩ (.int .i64 (sc2 2))).setCell ⟨b, 5, none⟩ (.int .i64 (sc2 3))) := Lp.one h3 hb 5 _ rfl
  have h5 : Lp w base b o d bs v (half2 sc sc2 5) last (((((w2.setCell ⟨b, 2, none⟩ (.int .i64 (sc2 0))).setCell ⟨b, 3, none⟩ (.int .i64 (sc2 1))).setCell ⟨b, 4, none⟩ (.int .i64 (sc2 2))).setCell ⟨b, 5, none⟩ (.int .i64 (sc2 3))).setCell ⟨b, 6, none⟩ (.int .i64 (sc2 4))) := Lp.one h4 hb 6 _ rfl
  have h6 : Lp w base b o d bs v (half2 sc sc2 6) last ((((((w2.setCell ⟨b, 2, none⟩ (.int .i64 (sc2 0))).setCell ⟨b, 3, none⟩ (.int .i64 (sc2 1))).setCell ⟨b, 4, none⟩ (.int .i64 (sc2 2))).setCell ⟨b, 5, none⟩ (.int .i64 (sc2 3))).setCell ⟨b, 6, none⟩ (.int .i64 (sc2 4))).setCell ⟨b, 7, none⟩ (.int .i64 (sc2 5))) := Lp.one h5 hb 7 _ rfl
  have h7 : Lp w base b o d bs v (half2 sc sc2 7) last (((((((w2.setCell ⟨b, 2, none⟩ (.int .i64 (sc2 0))).setCell ⟨b, 3, none⟩ (.int .i64 (sc2 1))).setCell ⟨b, 4, none⟩ (.int .i64 (sc2 2))).setCell ⟨b, 5, none⟩ (.int .i64 (sc2 3))).setCell ⟨b, 6, none⟩ (.int .i64 (sc2 4))).setCell ⟨b, 7, none⟩ (.int .i64 (sc2 5))).setCell ⟨b, 8, none⟩ (.int .i64 (sc2 6))) := Lp.one h6 hb 8 _ rfl
  have h8 : Lp w base b o d bs v (half2 sc sc2 8) last ((((((((w2.setCell ⟨b, 2, none⟩ (.int .i64 (sc2 0))).setCell ⟨b, 3, none⟩ (.int .i64 (sc2 1))).setCell ⟨b, 4, none⟩ (.int .i64 (sc2 2))).setCell ⟨b, 5, none⟩ (.int .i64 (sc2 3))).setCell ⟨b, 6, none⟩ (.int .i64 (sc2 4))).setCell ⟨b, 7, none⟩ (.int .i64 (sc2 5))).setCell ⟨b, 8, none⟩ (.int .i64 (sc2 6))).setCell ⟨b, 9, none⟩ (.int .i64 (sc2 7))) := Lp.one h7 hb 9 _ rfl
  have h9 : Lp w base b o d bs v (half2 sc sc2 9) last (((((((((w2.setCell ⟨b, 2, none⟩ (.int .i64 (sc2 0))).setCell ⟨b, 3, none⟩ (.int .i64 (sc2 1))).setCell ⟨b, 4, none⟩ (.int .i64 (sc2 2))).setCell ⟨b, 5, none⟩ (.int .i64 (sc2 3))).setCell ⟨b, 6, none⟩ (.int .i64 (sc2 4))).setCell ⟨b, 7, none⟩ (.int .i64 (sc2 5))).setCell ⟨b, 8, none⟩ (.int .i64 (sc2 6))).setCell ⟨b, 9, none⟩ (.int .i64 (sc2 7))).setCell ⟨b, 10, none⟩ (.int .i64 (sc2 8))) := Lp.one h8 hb 10 _ rfl
  have h10 : Lp w base b o d bs v (half2 sc sc2 10) last ((((((((((w2.setCell ⟨b, 2, none⟩ (.int .i64 (sc2 0))).setCell ⟨b, 3, none⟩ (.int .i64 (sc2 1))).setCell ⟨b, 4, none⟩ (.int .i64 (sc2 2))).setCell ⟨b, 5, none⟩ (.int .i64 (sc2 3))).setCell ⟨b, 6, none⟩ (.int .i64 (sc2 4))).setCell ⟨b, 7, none⟩ (.int .i64 (sc2 5))).setCell ⟨b, 8, none⟩ (.int .i64 (sc2 6))).setCell ⟨b, 9, none⟩ (.int .i64 (sc2 7))).setCell ⟨b, 10, none⟩ (.int .i64 (sc2 8))).setCell ⟨b, 11, none⟩ (.int .i64 (sc2 9))) := Lp.one h9 hb 11 _ rfl
  have h11 : Lp w base b o d bs v (half2 sc sc2 11) last (((((((((((w2.setCell ⟨b, 2, none⟩ (.int .i64 (sc2 0))).setCell ⟨b, 3, none⟩ (.int .i64 (sc2 1))).setCell ⟨b, 4, none⟩ (.int .i64 (sc2 2))).setCell ⟨b, 5, none⟩ (.int .i64 (sc2 3))).setCell ⟨b, 6, none⟩ (.int .i64 (sc2 4))).setCell ⟨b, 7, none⟩ (.int .i64 (sc2 5))).setCell ⟨b, 8, none⟩ (.int .i64 (sc2 6))).setCell ⟨b, 9, none⟩ (.int .i64 (sc2 7))).setCell ⟨b, 10, none⟩ (.int .i64 (sc2 8))).setCell ⟨b, 11, none⟩ (.int .i64 (sc2 9))).setCell ⟨b, 12, none⟩ (.int .i64 (sc2 10))) := Lp.one h10 hb 12 _ rfl
  have h12 : Lp w base b o d bs v (half2 sc sc2 12) last ((((((((((((w2.setCell ⟨b, 2, none⟩ (.int .i64 (sc2 0))).setCell ⟨b, 3, none⟩ (.int .i64 (sc2 1))).setCell ⟨b, 4, none⟩ (.int .i64 (sc2 2))).setCell ⟨b, 5, none⟩ (.int .i64 (sc2 3))).setCell ⟨b, 6, none⟩ (.int .i64 (sc2 4))).setCell ⟨b, 7, none⟩ (.int .i64 (sc2 5))).setCell ⟨b, 8, none⟩ (.int .i64 (sc2 6))).setCell ⟨b, 9, none⟩ (.int .i64 (sc2 7))).setCell ⟨b, 10, none⟩ (.int .i64 (sc2 8))).setCell ⟨b, 11, none⟩ (.int .i64 (sc2 9))).setCell ⟨b, 12, none⟩ (.int .i64 (sc2 10))).setCell ⟨b, 13, none⟩ (.int .i64 (sc2 11))) := Lp.one h11 hb 13 _ rfl
  have h13 : Lp w base b o d bs v (half2 sc sc2 13) last (((((((((((((w2.setCell ⟨b, 2, none⟩ (.int .i64 (sc2 0))).setCell ⟨b, 3, none⟩ (.int .i64 (sc2 1))).setCell ⟨b, 4, none⟩ (.int .i64 (sc2 2))).setCell ⟨b, 5, none⟩ (.int .i64 (sc2 3))).setCell ⟨b, 6, none⟩ (.int .i64 (sc2 4))).setCell ⟨b, 7, none⟩ (.int .i64 (sc2 5))).setCell ⟨b, 8, none⟩ (.int .i64 (sc2 6))).setCell ⟨b, 9, none⟩ (.int .i64 (sc2 7))).setCell ⟨b, 10, none⟩ (.int .i64 (sc2 8))).setCell ⟨b, 11, none⟩ (.int .i64 (sc2 9))).setCell ⟨b, 12, none⟩ (.int .i64 (sc2 10))).setCell ⟨b, 13, none⟩ (.int .i64 (sc2 11))).setCell ⟨b, 14, none⟩ (.int .i64 (sc2 12))) := Lp.one h12 hb 14 _ rfl
  have h14 : Lp w base b o d bs v (half2 sc sc2 14) last ((((((((((((((w2.setCell ⟨b, 2, none⟩ (.int .i64 (sc2 0))).setCell ⟨b, 3, none⟩ (.int .i64 (sc2 1))).setCell ⟨b, 4, none⟩ (.int .i64 (sc2 2))).setCell ⟨b, 5, none⟩ (.int .i64 (sc2 3))).setCell ⟨b, 6, none⟩ (.int .i64 (sc2 4))).setCell ⟨b, 7, none⟩ (.int .i64 (sc2 5))).setCell ⟨b, 8, none⟩ (.int .i64 (sc2 6))).setCell ⟨b, 9, none⟩ (.int .i64 (sc2 7))).setCell ⟨b, 10, none⟩ (.int .i64 (sc2 8))).setCell ⟨b, 11, none⟩ (.int .i64 (sc2 9))).setCell ⟨b, 12, none⟩ (.int .i64 (sc2 10))).setCell ⟨b, 13, none⟩ (.int .i64 (sc2 11))).setCell ⟨b, 14, none⟩ (.int .i64 (sc2 12))).setCell ⟨b, 15, none⟩ (.int .i64 (sc2 13))) := Lp.one h13 hb 15 _ rfl
  exact ⟨h14.low, h14.own, h14.vo, h14.blk, h14.keep, h14.act, h14.rep, h14.size⟩
theorem Keep.grown {w w1 w2 : World} {b : Nat} {o : Option Nat} (h : Keep w w1 b o) (hg : w1.grownBy w2 o) : Keep w w2 b o :=
  ⟨hg.os.trans h.os, hg.tape.trans h.tape, hg.output.trans h.output, Nat.le_trans h.size hg.size, fun i hi hb ho => (hg.block i (Nat.lt_of_lt_of_le hi h.size) ho).trans (h.block i hi hb ho)⟩
theorem Lp.done {w : World} {base b : Nat} {o : Option Nat} {d : DS} {bs : ByteArray} {v v3 : Value} {sc : Nat → Int} {last : Int} {wr w3 : World} (h : Lp w base b o d bs v sc last wr) (hb : b < w.heap.size) (hno : o ≠ some (w.heap.size + 1)) (ha : Apps wr base v (d.bs.length + bs.size) (byteVals d.bs ++ Lib.strCells bs) v3 w3) (hR : (sc, last) = feedSc d.sc d.last bs.data.toList) :
    (∃ o', Det base (w3.setCell ⟨b, 1, none⟩ v3) b o' (fed d bs.data.toList) ∧ Moved w o o' ∧ o' ≠ some (w.heap.size + 1)) ∧ Keep w (w3.setCell ⟨b, 1, none⟩ v3) b o ∧ (w3.setCell ⟨b, 1, none⟩ v3).heap[w.heap.size + 1]? = some (.cells #[.int .i64 0, .int .i64 0, .int .i64 0, .bool false, .slice none 0 0] 38 (0, 0)) := by
  have hs := h.size
  have hg := ha.grown
  rw [h.vo] at hg
  have hat := ha.at_
  rw [h.vo] at hat
  have hap := h.det.apart
  have hblk : w3.heap[b]? = some (.cells (detCells (mid d sc last) v) 75 (0, 0)) := (hg.block b h.det.lt (Ne.symm hap)).trans h.blk
  have hrep : w3.heap[w.heap.size + 1]? = some (.cells #[.int .i64 0, .int .i64 0, .int .i64 0, .bool false, .slice none 0 0] 38 (0, 0)) := (hg.block _ (by omega) (Ne.symm hno)).trans h.rep
  have hne : v3.ownBlock ≠ some b := by
    rcases hat with h1 | ⟨g, h1, h2⟩
    · rw [h1]
      exact hap
    · rw [h1]
      intro e
      injection e with e
      omega
  refine ⟨⟨v3.ownBlock, ⟨h.low, v3, ?_, ?_, rfl⟩, ?_, ?_⟩, (h.keep.grown hg).set (.inl rfl) _, (Go.Deep.blk_setCell_other _ _ _ _ (by simp; omega)).trans hrep⟩
  · rw [row_setCell hblk v3]
    have e1 : (feedSc d.sc d.last bs.data.toList).1 = sc := by rw [← hR]
    have e2 : (feedSc d.sc d.last bs.data.toList).2 = last := by rw [← hR]
    unfold fed
    rw [e1, e2]
    rfl
  · have h1 := own_far ha.own ⟨b, 1, none⟩ hne v3
    have e1 : (fed d bs.data.toList).bs.length = d.bs.length + bs.size := by
      show (d.bs ++ bs.data.toList).length = _
      rw [List.length_append]
      simp
    have e2 : byteVals (fed d bs.data.toList).bs = byteVals d.bs ++ Lib.strCells bs := by
      show byteVals (d.bs ++ bs.data.toList) = _
      unfold byteVals Lib.strCells
      rw [List.map_append]
    rw [e1, e2]
    exact h1
  · rcases hat with h1 | ⟨g, h1, h2⟩
    · exact .inl h1
    · exact .inr ⟨g, h1, by omega⟩
  · rcases hat with h1 | ⟨g, h1, h2⟩
    · rw [h1]
      exact hno
    · rw [h1]
      intro e
      injection e with e
      omega

theorem feedSc_step (sc : Nat → Int) (last : Int) (l : List UInt8) (k : Nat) (hk : k < l.length) (R : (Nat → Int) × Int) (h : feedSc sc last (l.drop k) = R) : feedSc (scNext sc last (Pl.byte l[k])) (Pl.byte l[k]) (l.drop (k + 1)) = R := by
  rw [List.drop_eq_getElem_cons hk] at h
  exact h

set_option maxRecDepth 100000 in
set_option maxHeartbeats 8000000 in
theorem do_feed (base b : Nat) (o : Option Nat) (d : DS) (bs : ByteArray) (w : World) (hdet : Det base w b o d) (ha0 : 0 ≤ d.acts) (ha : d.acts < 300) (he : d.ended = false) (hsz : d.bs.length + bs.size ≤ 4000) (hsb : ScB d.bs.length d.sc) (hla0 : -1 ≤ d.last) (hla1 : d.last ≤ 255) :
    Calls Tryd.prog 24 #[.pointer (some ⟨b, 0, none⟩), .agg #[.int .i64 1, .string bs]] w fun e w' => AnsD base w b o (fed d bs.data.toList) (rp0 0) e w' := by
  have HDet := Lib.hid hdet
  have hb : b < w.heap.size := hdet.lt
  have hno : o ≠ some (w.heap.size + 1) := fun e => by have := (hdet.own_lt _ e).2; omega
  have hno0 : o ≠ some w.heap.size := fun e => by have := (hdet.own_lt _ e).2; omega
  obtain ⟨v, hblk, hown, hvo⟩ := hdet.mem
  have HV := Lib.hid hvo
  have HBlk := Lib.hid hblk
  have HOwn := Lib.hid hown
  have hc := fun k => cell_of_row w b k _ _ _ hblk
  have hfz : ∀ k, w.frozen? ⟨b, k, none⟩ = false := fun _ => by unfold World.frozen?; simp [hblk]
  have c18 : w.cell? ⟨b, 18, none⟩ = some (.int .i64 d.acts) := hc 18
  have c17 : w.cell? ⟨b, 17, none⟩ = some (.bool d.ended) := hc 17
  have c1 : w.cell? ⟨b, 1, none⟩ = some v := hc 1
  rw [he] at c17
  obtain ⟨p, cap, rfl⟩ := own_form hown
  have hl2 : (d.bs.length : Int) + (bs.size : Int) ≤ 4000 := by omega
  have HSB := Lib.hid hsb
  have HLA := Lib.hid (And.intro hla0 hla1)
  clear hc hblk hdet hown hvo hsb hla0 hla1
  go_enter Tryd.func24, Tryd.ntmps24
  go_wp2_with fail
  go_quiet (fail)
  go_wp2_with fail
  have hL : Lp w base b o d bs (.slice p d.bs.length cap) d.sc d.last ((((w.setCell ⟨b, 18, none⟩ (.int .i64 (d.acts + 1))).alloc (.cells #[.int .i64 1, .string bs] 30)).alloc (.cells #[.int .i64 0, .int .i64 0, .int .i64 0, .bool false, .slice none 0 0] 38)).drewN nq) := by
    refine ⟨HDet.out.low, ?_, HV.out, ?_, ?_, ?_, ?_, ?_⟩
    · exact ((own_far HOwn.out _ (by rw [HV.out]; exact HDet.out.apart) _).alloc _).alloc _
    · have h1 := row_setCell (k := 18) HBlk.out (.int .i64 (d.acts + 1))
      exact (Go.Deep.blk_alloc_lt _ _ _ (by simp [World.setCell]; omega)).trans ((Go.Deep.blk_alloc_lt _ _ _ (by simp [World.setCell]; omega)).trans h1)
    · exact ((((Keep.refl w b o).set (.inl rfl) _).alloc _).alloc _).drewN _
    · exact (Go.Deep.blk_alloc_lt _ _ _ (by simp [World.setCell])).trans (heap_at (by simp [World.setCell]))
    · exact heap_at (by simp [World.setCell])
    · show _ ≤ (World.alloc _ _).heap.size
      simp [World.setCell]
  generalize World.drewN _ _ = w0 at hL ⊢
  have HL0 := Lib.hid hL
  clear hL c1 c17 c18 hfz
  go_loopw [83] (fun i wr => ∃ (k : Nat) (sc : Nat → Int) (last : Int), i = .int .i64 k ∧ k ≤ bs.size ∧ Hid (feedSc sc last (bs.data.toList.drop k) = feedSc d.sc d.last bs.data.toList) ∧ Hid (ScB ((d.bs.length : Int) + k) sc) ∧ Hid (-1 ≤ last ∧ last ≤ 255) ∧ Hid (Lp w base b o d bs (.slice p d.bs.length cap) sc last wr)) (fun i _ => bs.size - (intOf i).toNat)
  case atStart => exact ⟨0, d.sc, d.last, rfl, by omega, Lib.hid rfl, Lib.hid (by simpa using HSB.out), HLA, HL0⟩
  case round =>
    obtain ⟨k, sc, last, rfl, hk, HR, HS, HLst, HM⟩ := hrel
    have hs := HM.out.size
    have hcb := fun j => cell_of_row wr b j _ _ _ HM.out.blk
    have hfr : ∀ j, wr.frozen? ⟨b, j, none⟩ = false := fun _ => by unfold World.frozen?; simp [HM.out.blk]
    have a1 : wr.cell? ⟨w.heap.size, 1, none⟩ = some (.string bs) := cell_of_row wr w.heap.size 1 _ _ _ HM.out.act
    by_cases hlt : k < bs.size
    · have hi0 : (0 : Int) ≤ (k : Int) := by omega
      have hi1 : (k : Int) < (bs.size : Int) := by omega
      have s2 : wr.cell? ⟨b, 2, none⟩ = some (.int .i64 (sc 0)) := hcb 2
      have s3 : wr.cell? ⟨b, 3, none⟩ = some (.int .i64 (sc 1)) := hcb 3
      have s4 : wr.cell? ⟨b, 4, none⟩ = some (.int .i64 (sc 2)) := hcb 4
      have s5 : wr.cell? ⟨b, 5, none⟩ = some (.int .i64 (sc 3)) := hcb 5
      have s6 : wr.cell? ⟨b, 6, none⟩ = some (.int .i64 (sc 4)) := hcb 6
      have s7 : wr.cell? ⟨b, 7, none⟩ = some (.int .i64 (sc 5)) := hcb 7
      have s8 : wr.cell? ⟨b, 8, none⟩ = some (.int .i64 (sc 6)) := hcb 8
      have s9 : wr.cell? ⟨b, 9, none⟩ = some (.int .i64 (sc 7)) := hcb 9
      have s10 : wr.cell? ⟨b, 10, none⟩ = some (.int .i64 (sc 8)) := hcb 10
      have s11 : wr.cell? ⟨b, 11, none⟩ = some (.int .i64 (sc 9)) := hcb 11
      have s12 : wr.cell? ⟨b, 12, none⟩ = some (.int .i64 (sc 10)) := hcb 12
      have s13 : wr.cell? ⟨b, 13, none⟩ = some (.int .i64 (sc 11)) := hcb 13
      have s14 : wr.cell? ⟨b, 14, none⟩ = some (.int .i64 (sc 12)) := hcb 14
      have s15 : wr.cell? ⟨b, 15, none⟩ = some (.int .i64 (sc 13)) := hcb 15
      have s16 : wr.cell? ⟨b, 16, none⟩ = some (.int .i64 last) := hcb 16
      obtain ⟨c, hc⟩ : ∃ c, bs.data.toList[k]'(by simpa using hlt) = c := ⟨_, rfl⟩
      obtain ⟨y, hy⟩ : ∃ y : Nat, c.toNat = y := ⟨_, rfl⟩
      have hix : ∀ h : k < bs.size, (bs[k]'h).toNat = y := fun h => by rw [← hy, ← hc]; rfl
      have hy2 : (y : Int) ≤ 255 := by have := c.toNat_lt; omega
      have hwb : IntKind.i64.wrap (y : Int) = (y : Int) := by rw [IntKind.wrap_i64]; omega
      have HY := Lib.hid hy
      have HCh := Lib.hid hc
      have HS1 : Hid (∀ W, Calls Tryd.prog 48 #[.agg #[.int .i64 (sc 0), .int .i64 (sc 1), .int .i64 (sc 2), .int .i64 (sc 3), .int .i64 (sc 4), .int .i64 (sc 5), .int .i64 (sc 6), .int .i64 (sc 7), .int .i64 (sc 8), .int .i64 (sc 9), .int .i64 (sc 10), .int .i64 (sc 11), .int .i64 (sc 12), .int .i64 (sc 13)], .int .i64 last, .int .i64 (y : Int)] W fun e w' => e = .returned (.agg #[.int .i64 (scNext sc last y 0), .int .i64 (scNext sc last y 1), .int .i64 (scNext sc last y 2), .int .i64 (scNext sc last y 3), .int .i64 (scNext sc last y 4), .int .i64 (scNext sc last y 5), .int .i64 (scNext sc last y 6), .int .i64 (scNext sc last y 7), .int .i64 (scNext sc last y 8), .int .i64 (scNext sc last y 9), .int .i64 (scNext sc last y 10), .int .i64 (scNext sc last y 11), .int .i64 (scNext sc last y 12), .int .i64 (scNext sc last y 13)]) ∧ Below W.heap.size W w') := Lib.hid fun W => sNext_any sc last y _ W HS.out (by omega) (by omega) HLst.out.1 HLst.out.2 (by omega) (by omega)
      clear hy hc hcb
      go_wp2_with fail
      go_region_with
        (first
          | (go_at_call 48
             refine (HS1.out _).mono ?_
             rintro e2 w2 ⟨rfl, hbel⟩
             have hcb2 := fun j => cell_of_row w2 b j _ _ _ ((hbel.block b HM.out.det.lt).trans HM.out.blk)
             have hfr2 : ∀ j, w2.frozen? ⟨b, j, none⟩ = false := fun _ => by unfold World.frozen?; simp [(hbel.block b HM.out.det.lt).trans HM.out.blk]
             have r2 : w2.cell? ⟨b, 2, none⟩ = some (.int .i64 (sc 0)) := hcb2 2
             have r3 : w2.cell? ⟨b, 3, none⟩ = some (.int .i64 (sc 1)) := hcb2 3
             have r4 : w2.cell? ⟨b, 4, none⟩ = some (.int .i64 (sc 2)) := hcb2 4
             have r5 : w2.cell? ⟨b, 5, none⟩ = some (.int .i64 (sc 3)) := hcb2 5
             have r6 : w2.cell? ⟨b, 6, none⟩ = some (.int .i64 (sc 4)) := hcb2 6
             have r7 : w2.cell? ⟨b, 7, none⟩ = some (.int .i64 (sc 5)) := hcb2 7
             have r8 : w2.cell? ⟨b, 8, none⟩ = some (.int .i64 (sc 6)) := hcb2 8
             have r9 : w2.cell? ⟨b, 9, none⟩ = some (.int .i64 (sc 7)) := hcb2 9
             have r10 : w2.cell? ⟨b, 10, none⟩ = some (.int .i64 (sc 8)) := hcb2 10
             have r11 : w2.cell? ⟨b, 11, none⟩ = some (.int .i64 (sc 9)) := hcb2 11
             have r12 : w2.cell? ⟨b, 12, none⟩ = some (.int .i64 (sc 10)) := hcb2 12
             have r13 : w2.cell? ⟨b, 13, none⟩ = some (.int .i64 (sc 11)) := hcb2 13
             have r14 : w2.cell? ⟨b, 14, none⟩ = some (.int .i64 (sc 12)) := hcb2 14
             have r15 : w2.cell? ⟨b, 15, none⟩ = some (.int .i64 (sc 13)) := hcb2 15
             clear hcb2))
      · have hM2 := HM.out.below (show Below wr.heap.size wr w2 from ⟨hbel.os, hbel.tape, hbel.output, hbel.size, hbel.block⟩)
        have hM3 := Lp.scores (scNext sc last (y : Int)) hM2 hb
        clear hM2 hbel hfr2 r2 r3 r4 r5 r6 r7 r8 r9 r10 r11 r12 r13 r14 r15 s2 s3 s4 s5 s6 s7 s8 s9 s10 s11 s12 s13 s14 s15 s16 a1 hfr HS1
        generalize World.setCell (World.setCell _ _ _) _ _ = W at hM3 ⊢
        have HM3 := Lib.hid hM3
        have w16 : W.cell? ⟨b, 16, none⟩ = some (.int .i64 last) := cell_of_row W b 16 _ _ _ hM3.blk
        have wfr : ∀ j, W.frozen? ⟨b, j, none⟩ = false := fun _ => by unfold World.frozen?; simp [hM3.blk]
        clear hM3
        go_wp2_with fail
        have hM4 := Lp.one (last2 := (y : Int)) HM3.out hb 16 (.int .i64 (y : Int)) rfl
        have HM4 := Lib.hid hM4
        refine ⟨⟨k + 1, scNext sc last (y : Int), (y : Int), ?_, by omega, ?_, ?_, ?_, HM4⟩, by simp [intOf]; omega⟩
        · go_num
        · have hkl : k < bs.data.toList.length := by simpa using hlt
          have h := feedSc_step sc last bs.data.toList k hkl _ HR.out
          rw [show bs.data.toList[k] = c from HCh.out, show Pl.byte c = (y : Int) from by unfold Pl.byte; rw [HY.out]] at h
          exact Lib.hid h
        · have h := HS.out.next (by omega) last (y : Int)
          rw [show (d.bs.length : Int) + ((k + 1 : Nat) : Int) = (d.bs.length : Int) + k + 1 by omega]
          exact Lib.hid h
        · exact Lib.hid ⟨by omega, hy2⟩
      · have hM2 := HM.out.below (show Below wr.heap.size wr w2 from ⟨hbel.os, hbel.tape, hbel.output, hbel.size, hbel.block⟩)
        have hM3 := Lp.scores (scNext sc last (y : Int)) hM2 hb
        clear hM2 hbel hfr2 r2 r3 r4 r5 r6 r7 r8 r9 r10 r11 r12 r13 r14 r15 s2 s3 s4 s5 s6 s7 s8 s9 s10 s11 s12 s13 s14 s15 s16 a1 hfr HS1
        generalize World.setCell (World.setCell _ _ _) _ _ = W at hM3 ⊢
        have HM3 := Lib.hid hM3
        have w16 : W.cell? ⟨b, 16, none⟩ = some (.int .i64 last) := cell_of_row W b 16 _ _ _ hM3.blk
        have wfr : ∀ j, W.frozen? ⟨b, j, none⟩ = false := fun _ => by unfold World.frozen?; simp [hM3.blk]
        clear hM3
        go_wp2_with fail
        have hM4 := Lp.one (last2 := (y : Int)) HM3.out hb 16 (.int .i64 (y : Int)) rfl
        have HM4 := Lib.hid hM4
        refine ⟨⟨k + 1, scNext sc last (y : Int), (y : Int), ?_, by omega, ?_, ?_, ?_, HM4⟩, by simp [intOf]; omega⟩
        · go_num
        · have hkl : k < bs.data.toList.length := by simpa using hlt
          have h := feedSc_step sc last bs.data.toList k hkl _ HR.out
          rw [show bs.data.toList[k] = c from HCh.out, show Pl.byte c = (y : Int) from by unfold Pl.byte; rw [HY.out]] at h
          exact Lib.hid h
        · have h := HS.out.next (by omega) last (y : Int)
          rw [show (d.bs.length : Int) + ((k + 1 : Nat) : Int) = (d.bs.length : Int) + k + 1 by omega]
          exact Lib.hid h
        · exact Lib.hid ⟨by omega, hy2⟩
    · have hk2 : k = bs.size := by omega
      subst hk2
      have a1' := a1
      have s1 : wr.cell? ⟨b, 1, none⟩ = some (.slice p d.bs.length cap) := hcb 1
      have HR2 := Lib.hid HM.out.rep
      clear hcb
      go_wp2_with fail
      go_region_law (
                      (refine step_apps (by rfl) _ _ (by rfl) base (.slice p d.bs.length cap) d.bs.length (byteVals d.bs) bs (by rfl) (by rfl) HM.out.own (by omega) (by have := HM.out.low; have := HM.out.det.lt; show base ≤ wr.heap.size; omega) ?_
                       intro v3 w3 HA3
                       obtain ⟨p3, cap3, rfl⟩ := own_form HA3.own
                       have hb3 : w3.heap[b]? = some (.cells (detCells (mid d sc last) (.slice p d.bs.length cap)) 75 (0, 0)) := (HA3.grown.block b HM.out.det.lt (by rw [HM.out.vo]; exact Ne.symm HM.out.det.apart)).trans HM.out.blk
                       have t1 : w3.cell? ⟨b, 1, none⟩ = some (.slice p d.bs.length cap) := cell_of_row w3 b 1 _ _ _ hb3
                       have t2 : w3.frozen? ⟨b, 1, none⟩ = false := by unfold World.frozen?; simp [hb3]))
      · have hR := HR.out
        rw [List.drop_eq_nil_of_le (by simp)] at hR
        obtain ⟨⟨o', hD4, hMv, hno'⟩, hK4, hrep4⟩ := Lp.done HM.out hb hno ⟨HA3.own, ⟨HA3.grown.os, HA3.grown.tape, HA3.grown.output, HA3.grown.size, HA3.grown.block⟩, HA3.at_⟩ (show (sc, last) = _ from hR)
        clear hR HA3 hb3 t1 t2 s1 hfr a1 a1'
        generalize World.setCell _ _ _ = W4 at hD4 hK4 hrep4 ⊢
        have fx := fun j => cell_of_row W4 (w.heap.size + 1) j _ _ _ hrep4
        have fz : ∀ j, W4.frozen? ⟨w.heap.size + 1, j, none⟩ = false := fun _ => by unfold World.frozen?; simp [hrep4]
        have HD4 := Lib.hid hD4
        have HK4 := Lib.hid hK4
        have HNo := Lib.hid hno'
        clear hD4 hK4 hno' hrep4
        go_wp2_with fail
        refine bodyPost_ret (by simp [results, Tryd.results24, go_sem, fx]; rfl) rfl ?_
        refine ⟨⟨_, rfl, World.ownsRow_nil _ _ _ _⟩, ⟨o', ?_, hMv⟩, ?_⟩
        · repeat (with_reducible refine Det.far ?_ (by simp; omega) (by exact HNo.out) _)
          exact HD4.out
        · repeat (with_reducible refine Keep.set ?_ (.inr (by simp)) _)
          exact HK4.out
      · have hR := HR.out
        rw [List.drop_eq_nil_of_le (by simp)] at hR
        obtain ⟨⟨o', hD4, hMv, hno'⟩, hK4, hrep4⟩ := Lp.done HM.out hb hno ⟨HA3.own, ⟨HA3.grown.os, HA3.grown.tape, HA3.grown.output, HA3.grown.size, HA3.grown.block⟩, HA3.at_⟩ (show (sc, last) = _ from hR)
        clear hR HA3 hb3 t1 t2 s1 hfr a1 a1'
        generalize World.setCell _ _ _ = W4 at hD4 hK4 hrep4 ⊢
        have fx := fun j => cell_of_row W4 (w.heap.size + 1) j _ _ _ hrep4
        have fz : ∀ j, W4.frozen? ⟨w.heap.size + 1, j, none⟩ = false := fun _ => by unfold World.frozen?; simp [hrep4]
        have HD4 := Lib.hid hD4
        have HK4 := Lib.hid hK4
        have HNo := Lib.hid hno'
        clear hD4 hK4 hno' hrep4
        go_wp2_with fail
        refine bodyPost_ret (by simp [results, Tryd.results24, go_sem, fx]; rfl) rfl ?_
        refine ⟨⟨_, rfl, World.ownsRow_nil _ _ _ _⟩, ⟨o', ?_, hMv⟩, ?_⟩
        · repeat (with_reducible refine Det.far ?_ (by simp; omega) (by exact HNo.out) _)
          exact HD4.out
        · repeat (with_reducible refine Keep.set ?_ (.inr (by simp)) _)
          exact HK4.out
end Go.Proofs.YtefohnbmifblkaaDoor
