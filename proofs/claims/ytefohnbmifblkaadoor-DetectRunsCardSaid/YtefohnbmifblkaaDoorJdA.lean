/-
  The walk of score.Whole.
-/
import Derived.Test.YtefohnbmifblkaaDoorDoA
import Derived.Test.YtefohnbmifblkaaDoorDoD
import Derived.Deep.RegionWith
import Derived.Deep.RegionLaw
import Derived.Test.YtefohnbmifblkaaDoorDoF
namespace Go.Proofs.YtefohnbmifblkaaDoor
open Go.RowKit
attribute [local go_sem ↓] Go.wp_at_zero Go.wp_at_succ

def scCells (sc : Nat → Int) : Array Value := #[.int .i64 (sc 0), .int .i64 (sc 1), .int .i64 (sc 2), .int .i64 (sc 3), .int .i64 (sc 4), .int .i64 (sc 5), .int .i64 (sc 6), .int .i64 (sc 7), .int .i64 (sc 8), .int .i64 (sc 9), .int .i64 (sc 10), .int .i64 (sc 11), .int .i64 (sc 12), .int .i64 (sc 13)]
/-- a world of the loop: the scores lie in block g. -/
structure Sw (w : World) (g : Nat) (sc : Nat → Int) (wr : World) : Prop where
  below : Below w.heap.size w wr
  blk : wr.heap[g]? = some (.cells (scCells sc) 73 (0, 0))
theorem Sw.one {w : World} {g : Nat} {sc sc2 : Nat → Int} {w2 : World} (h : Sw w g sc w2) (hg : w.heap.size ≤ g) (k : Nat) (x : Value) (hx : (scCells sc).setIfInBounds k x = scCells sc2) : Sw w g sc2 (w2.setCell ⟨g, k, none⟩ x) :=
  ⟨h.below.setCell hg _, (row_setCell h.blk x).trans (by rw [hx])⟩
theorem Sw.next {w : World} {g : Nat} {sc : Nat → Int} {w1 w2 : World} (h : Sw w g sc w1) (hb : Below w1.heap.size w1 w2) : Sw w g sc w2 :=
  ⟨bthen h.below hb, (hb.block _ (Array.getElem?_eq_some_iff.1 h.blk).1).trans h.blk⟩
theorem Sw.scores {w : World} {g : Nat} {sc : Nat → Int} {w2 : World} (sc2 : Nat → Int) (h : Sw w g sc w2) (hg : w.heap.size ≤ g) : Sw w g sc2 ((((((((((((((w2.setCell ⟨g, 0, none⟩ (.int .i64 (sc2 0))).setCell ⟨g, 1, none⟩ (.int .i64 (sc2 1))).setCell ⟨g, 2, none⟩ (.int .i64 (sc2 2))).setCell ⟨g, 3, none⟩ (.int .i64 (sc2 3))).setCell ⟨g, 4, none⟩ (.int .i64 (sc2 4))).setCell ⟨g, 5, none⟩ (.int .i64 (sc2 5))).setCell ⟨g, 6, none⟩ (.int .i64 (sc2 6))).setCell ⟨g, 7, none⟩ (.int .i64 (sc2 7))).setCell ⟨g, 8, none⟩ (.int .i64 (sc2 8))).setCell ⟨g, 9, none⟩ (.int .i64 (sc2 9))).setCell ⟨g, 10, none⟩ (.int .i64 (sc2 10))).setCell ⟨g, 11, none⟩ (.int .i64 (sc2 11))).setCell ⟨g, 12, none⟩ (.int .i64 (sc2 12))).setCell ⟨g, 13, none⟩ (.int .i64 (sc2 13))) := by
  have h0 : Sw w g (half2 sc sc2 0) w2 := h
  have h1 : Sw w g (half2 sc sc2 1) (w2.setCell ⟨g, 0, none⟩ (.int .i64 (sc2 0))) := Sw.one h0 hg 0 _ rfl
  have h2 : Sw w g (half2 sc sc2 2) ((w2.setCell ⟨g, 0, none⟩ (.int .i64 (sc2 0))).setCell ⟨g, 1, none⟩ (.int .i64 (sc2 1))) := Sw.one h1 hg 1 _ rfl
  have h3 : Sw w g (half2 sc sc2 3) (((w2.setCell ⟨g, 0, none⟩ (.int .i64 (sc2 0))).setCell ⟨g, 1, none⟩ (.int .i64 (sc2 1))).setCell ⟨g, 2, none⟩ (.int .i64 (sc2 2))) := Sw.one h2 hg 2 _ rfl
  have h4 : Sw w g (half2 sc sc2 4) ((((w2.setCell ⟨g, 0, none⟩ (.int .i64 (sc2 0))).setCell ⟨g, 1, none⟩ (.int .i64 (sc2 1))).setCell ⟨g, 2, none⟩ (.int .i64 (sc2 2))).setCell ⟨g, 3, none⟩ (.int .i64 (sc2 3))) := Sw.one h3 hg 3 _ rfl
  have h5 : Sw w g (half2 sc sc2 5) (((((w2.setCell ⟨g, 0, none⟩ (.int .i64 (sc2 0))).setCell ⟨g, 1, none⟩ (.int .i64 (sc2 1))).setCell ⟨g, 2, none⟩ (.int .i64 (sc2 2))).setCell ⟨g, 3, none⟩ (.int .i64 (sc2 3))).setCell ⟨g, 4, none⟩ (.int .i64 (sc2 4))) := Sw.one h4 hg 4 _ rfl
  have h6 : Sw w g (half2 sc sc2 6) ((((((w2.setCell ⟨g, 0, none⟩ (.int .i64 (sc2 0))).setCell ⟨g, 1, none⟩ (.int .i64 (sc2 1))).setCell ⟨g, 2, none⟩ (.int .i64 (sc2 2))).setCell ⟨g, 3, none⟩ (.int .i64 (sc2 3))).setCell ⟨g, 4, none⟩ (.int .i64 (sc2 4))).setCell ⟨g, 5, none⟩ (.int .i64 (sc2 5))) := Sw.one h5 hg 5 _ rfl
  have h7 : Sw w g (half2 sc sc2 7) (((((((w2.setCell ⟨g, 0, none⟩ (.int .i64 (sc2 0))).setCell ⟨g, 1, none⟩ (.int .i64 (sc2 1))).setCell ⟨g, 2, none⟩ (.int .i64 (sc2 2))).setCell ⟨g, 3, none⟩ (.int .i64 (sc2 3))).setCell ⟨g, 4, none⟩ (.int .i64 (sc2 4))).setCell ⟨g, 5, none⟩ (.int .i64 (sc2 5))).setCell ⟨g, 6, none⟩ (.int .i64 (sc2 6))) := Sw.one h6 hg 6 _ rfl
  have h8 : Sw w g (half2 sc sc2 8) ((((((((w2.setCell ⟨g, 0, none⟩ (.int .i64 (sc2 0))).setCell ⟨g, 1, none⟩ (.int .i64 (sc2 1))).setCell ⟨g, 2, none⟩ (.int .i64 (sc2 2))).setCell ⟨g, 3, none⟩ (.int .i64 (sc2 3))).setCell ⟨g, 4, none⟩ (.int .i64 (sc2 4))).setCell ⟨g, 5, none⟩ (.int .i64 (sc2 5))).setCell ⟨g, 6, none⟩ (.int .i64 (sc2 6))).setCell ⟨g, 7, none⟩ (.int .i64 (sc2 7))) := Sw.one h7 hg 7 _ rfl
  have h9 : Sw w g (half2 sc sc2 9) (((((((((w2.setCell ⟨g, 0, none⟩ (.int .i64 (sc2 0))).setCell ⟨g, 1, none⟩ (.int .i64 (sc2 1))).setCell ⟨g, 2, none⟩ (.int .i64 (sc2 2))).setCell ⟨g, 3, none⟩ (.int .i64 (sc2 3))).setCell ⟨g, 4, none⟩ (.int .i64 (sc2 4))).setCell ⟨g, 5, none⟩ (.int .i64 (sc2 5))).setCell ⟨g, 6, none⟩ (.int .i64 (sc2 6))).setCell ⟨g, 7, none⟩ (.int .i64 (sc2 7))).setCell ⟨g, 8, none⟩ (.int .i64 (sc2 8))) := Sw.one h8 hg 8 _ rfl
  have h10 : Sw w g (half2 sc sc2 10) ((((((((((w2.setCell ⟨g, 0, none⟩ (.int .i64 (sc2 0))).setCell ⟨g, 1, none⟩ (.int .i64 (sc2 1))).setCell ⟨g, 2, none⟩ (.int .i64 (sc2 2))).setCell ⟨g, 3, none⟩ (.int .i64 (sc2 3))).setCell ⟨g, 4, none⟩ (.int .i64 (sc2 4))).setCell ⟨g, 5, none⟩ (.int .i64 (sc2 5))).setCell ⟨g, 6, none⟩ (.int .i64 (sc2 6))).setCell ⟨g, 7, none⟩ (.int .i64 (sc2 7))).setCell ⟨g, 8, none⟩ (.int .i64 (sc2 8))).setCell ⟨g, 9, none⟩ (.int .i64 (sc2 9))) := Sw.one h9 hg 9 _ rfl
  have h11 : Sw w g (half2 sc sc2 11) (((((((((((w2.setCell ⟨g, 0, none⟩ (.int .i64 (sc2 0))).setCell ⟨g, 1, none⟩ (.int .i64 (sc2 1))).setCell ⟨g, 2, none⟩ (.int .i64 (sc2 2))).setCell ⟨g, 3, none⟩ (.int .i64 (sc2 3))).setCell ⟨g, 4, none⟩ (.int .i64 (sc2 4))).setCell ⟨g, 5, none⟩ (.int .i64 (sc2 5))).setCell ⟨g, 6, none⟩ (.int .i64 (sc2 6))).setCell ⟨g, 7, none⟩ (.int .i64 (sc2 7))).setCell ⟨g, 8, none⟩ (.int .i64 (sc2 8))).setCell ⟨g, 9, none⟩ (.int .i64 (sc2 9))).setCell ⟨g, 10, none⟩ (.int .i64 (sc2 10))) := Sw.one h10 hg 10 _ rfl
  have h12 : Sw w g (half2 sc sc2 12) ((((((((((((w2.setCell ⟨g, 0, none⟩ (.int .i64 (sc2 0))).setCell ⟨g, 1, none⟩ (.int .i64 (sc2 1))).setCell ⟨g, 2, none⟩ (.int .i64 (sc2 2))).setCell ⟨g, 3, none⟩ (.int .i64 (sc2 3))).setCell ⟨g, 4, none⟩ (.int .i64 (sc2 4))).setCell ⟨g, 5, none⟩ (.int .i64 (sc2 5))).setCell ⟨g, 6, none⟩ (.int .i64 (sc2 6))).setCell ⟨g, 7, none⟩ (.int .i64 (sc2 7))).setCell ⟨g, 8, none⟩ (.int .i64 (sc2 8))).setCell ⟨g, 9, none⟩ (.int .i64 (sc2 9))).setCell ⟨g, 10, none⟩ (.int .i64 (sc2 10))).setCell ⟨g, 11, none⟩ (.int .i64 (sc2 11))) := Sw.one h11 hg 11 _ rfl
  have h13 : Sw w g (half2 sc sc2 13) (((((((((((((w2.setCell ⟨g, 0, none⟩ (.int .i64 (sc2 0))).setCell ⟨g, 1, none⟩ (.int .i64 (sc2 1))).setCell ⟨g, 2, none⟩ (.int .i64 (sc2 2))).setCell ⟨g, 3, none⟩ (.int .i64 (sc2 3))).setCell ⟨g, 4, none⟩ (.int .i64 (sc2 4))).setCell ⟨g, 5, none⟩ (.int .i64 (sc2 5))).setCell ⟨g, 6, none⟩ (.int .i64 (sc2 6))).setCell ⟨g, 7, none⟩ (.int .i64 (sc2 7))).setCell ⟨g, 8, none⟩ (.int .i64 (sc2 8))).setCell ⟨g, 9, none⟩ (.int .i64 (sc2 9))).setCell ⟨g, 10, none⟩ (.int .i64 (sc2 10))).setCell ⟨g, 11, none⟩ (.int .i64 (sc2 11))).setCell ⟨g, 12, none⟩ (.int .i64 (sc2 12))) := Sw.one h12 hg 12 _ rfl
  have h14 : Sw w g (half2 sc sc2 14) ((((((((((((((w2.setCell ⟨g, 0, none⟩ (.int .i64 (sc2 0))).setCell ⟨g, 1, none⟩ (.int .i64 (sc2 1))).setCell ⟨g, 2, none⟩ (.int .i64 (sc2 2))).setCell ⟨g, 3, none⟩ (.int .i64 (sc2 3))).setCell ⟨g, 4, none⟩ (.int .i64 (sc2 4))).setCell ⟨g, 5, none⟩ (.int .i64 (sc2 5))).setCell ⟨g, 6, none⟩ (.int .i64 (sc2 6))).setCell ⟨g, 7, none⟩ (.int .i64 (sc2 7))).setCell ⟨g, 8, none⟩ (.int .i64 (sc2 8))).setCell ⟨g, 9, none⟩ (.int .i64 (sc2 9))).setCell ⟨g, 10, none⟩ (.int .i64 (sc2 10))).setCell ⟨g, 11, none⟩ (.int .i64 (sc2 11))).setCell ⟨g, 12, none⟩ (.int .i64 (sc2 12))).setCell ⟨g, 13, none⟩ (.int .i64 (sc2 13))) := Sw.one h13 hg 13 _ rfl
  exact ⟨h14.below, h14.blk⟩

set_option maxRecDepth 100000 in
set_option maxHeartbeats 8000000 in
theorem whole_score (bs : ByteArray) (w : World) (hsz : bs.size ≤ 4000) :
    Calls Tryd.prog 53 #[.string bs] w fun e w' => e = .returned (.int .i64 (bestTo (feedSc (fun _ => 0) (-1) bs.data.toList).1 6 : Nat)) ∧ Below w.heap.size w w' := by
  go_enter Tryd.func53, Tryd.ntmps53
  go_wp2_with fail
  refine (scoreNew_any _).mono ?_
  rintro e1 w1 ⟨rfl, hb1⟩
  have hz1 := hb1.size
  have HB1 := Lib.hid hb1
  clear hb1
  go_wp2_with fail
  obtain ⟨g, hg⟩ : ∃ g, w1.heap.size = g := ⟨_, rfl⟩
  have hS : Sw w g (fun _ => 0) (w1.alloc (.cells #[.int .i64 0, .int .i64 0, .int .i64 0, .int .i64 0, .int .i64 0, .int .i64 0, .int .i64 0, .int .i64 0, .int .i64 0, .int .i64 0, .int .i64 0, .int .i64 0, .int .i64 0, .int .i64 0] 73)) := ⟨HB1.out.alloc hz1 _, by rw [← hg]; exact heap_alloc_new w1 _⟩
  have hgz : w.heap.size ≤ g := by omega
  rw [hg]
  generalize World.alloc _ _ = w0 at hS ⊢
  have HS0 := Lib.hid hS
  clear hS HB1 hg
  go_loopw [4, 9] (fun lst i wr => ∃ (k : Nat) (sc : Nat → Int) (last : Int), i = .int .i64 k ∧ lst = .int .i64 last ∧ k ≤ bs.size ∧ Hid (feedSc sc last (bs.data.toList.drop k) = feedSc (fun _ => 0) (-1) bs.data.toList) ∧ Hid (ScB (k : Int) sc) ∧ -1 ≤ last ∧ last ≤ 255 ∧ Hid (Sw w g sc wr)) (fun _ i _ => bs.size - (intOf i).toNat)
  case atStart => exact ⟨0, fun _ => 0, -1, rfl, rfl, by omega, Lib.hid rfl, Lib.hid (by intro e _ _; simp), by omega, by omega, HS0⟩
  case round =>
    obtain ⟨k, sc, last, rfl, rfl, hk, HR, HS, hl0, hl1, HM⟩ := hrel
    have hcb := fun j => cell_of_row wr g j _ _ _ HM.out.blk
    have hfr : ∀ j, wr.frozen? ⟨g, j, none⟩ = false := fun _ => by unfold World.frozen?; simp [HM.out.blk]
    have hgw : g < wr.heap.size := (Array.getElem?_eq_some_iff.1 HM.out.blk).1
    by_cases hlt : k < bs.size
    · have hi0 : (0 : Int) ≤ (k : Int) := by omega
      have hi1 : (k : Int) < (bs.size : Int) := by omega
      have s0 : wr.cell? ⟨g, 0, none⟩ = some (.int .i64 (sc 0)) := hcb 0
      have s1 : wr.cell? ⟨g, 1, none⟩ = some (.int .i64 (sc 1)) := hcb 1
      have s2 : wr.cell? ⟨g, 2, none⟩ = some (.int .i64 (sc 2)) := hcb 2
      have s3 : wr.cell? ⟨g, 3, none⟩ = some (.int .i64 (sc 3)) := hcb 3
      have s4 : wr.cell? ⟨g, 4, none⟩ = some (.int .i64 (sc 4)) := hcb 4
      have s5 : wr.cell? ⟨g, 5, none⟩ = some (.int .i64 (sc 5)) := hcb 5
      have s6 : wr.cell? ⟨g, 6, none⟩ = some (.int .i64 (sc 6)) := hcb 6
      have s7 : wr.cell? ⟨g, 7, none⟩ = some (.int .i64 (sc 7)) := hcb 7
      have s8 : wr.cell? ⟨g, 8, none⟩ = some (.int .i64 (sc 8)) := hcb 8
      have s9 : wr.cell? ⟨g, 9, none⟩ = some (.int .i64 (sc 9)) := hcb 9
      have s10 : wr.cell? ⟨g, 10, none⟩ = some (.int .i64 (sc 10)) := hcb 10
      have s11 : wr.cell? ⟨g, 11, none⟩ = some (.int .i64 (sc 11)) := hcb 11
      have s12 : wr.cell? ⟨g, 12, none⟩ = some (.int .i64 (sc 12)) := hcb 12
      have s13 : wr.cell? ⟨g, 13, none⟩ = some (.int .i64 (sc 13)) := hcb 13
      obtain ⟨c, hc⟩ : ∃ c, bs.data.toList[k]'(by simpa using hlt) = c := ⟨_, rfl⟩
      obtain ⟨y, hy⟩ : ∃ y : Nat, c.toNat = y := ⟨_, rfl⟩
      have hix : ∀ h : k < bs.size, (bs[k]'h).toNat = y := fun h => by rw [← hy, ← hc]; rfl
      have hy2 : (y : Int) ≤ 255 := by have := c.toNat_lt; omega
      have hwb : IntKind.i64.wrap (y : Int) = (y : Int) := by rw [IntKind.wrap_i64]; omega
      have HY := Lib.hid hy
      have HCh := Lib.hid hc
      have HS1 : Hid (∀ W, Calls Tryd.prog 48 #[.agg #[.int .i64 (sc 0), .int .i64 (sc 1), .int .i64 (sc 2), .int .i64 (sc 3), .int .i64 (sc 4), .int .i64 (sc 5), .int .i64 (sc 6), .int .i64 (sc 7), .int .i64 (sc 8), .int .i64 (sc 9), .int .i64 (sc 10), .int .i64 (sc 11), .int .i64 (sc 12), .int .i64 (sc 13)], .int .i64 last, .int .i64 (y : Int)] W fun e w' => e = .returned (.agg #[.int .i64 (scNext sc last y 0), .int .i64 (scNext sc last y 1), .int .i64 (scNext sc last y 2), .int .i64 (scNext sc last y 3), .int .i64 (scNext sc last y 4), .int .i64 (scNext sc last y 5), .int .i64 (scNext sc last y 6), .int .i64 (scNext sc last y 7), .int .i64 (scNext sc last y 8), .int .i64 (scNext sc last y 9), .int .i64 (scNext sc last y 10), .int .i64 (scNext sc last y 11), .int .i64 (scNext sc last y 12), .int .i64 (scNext sc last y 13)]) ∧ Below W.heap.size W w') := Lib.hid fun W => sNext_any sc last (y : Int) (k : Int) W HS.out (by omega) (by omega) hl0 hl1 (by omega) hy2
      clear hy hc hcb
      go_wp2_with fail
      go_region_with
        (first
          | (go_at_call 48
             refine (HS1.out _).mono ?_
             rintro e2 w2 ⟨rfl, hbel⟩
             have hcb2 := fun j => cell_of_row w2 g j _ _ _ ((hbel.block g hgw).trans HM.out.blk)
             have hfr2 : ∀ j, w2.frozen? ⟨g, j, none⟩ = false := fun _ => by unfold World.frozen?; simp [(hbel.block g hgw).trans HM.out.blk]
             have r0 : w2.cell? ⟨g, 0, none⟩ = some (.int .i64 (sc 0)) := hcb2 0
             have r1 : w2.cell? ⟨g, 1, none⟩ = some (.int .i64 (sc 1)) := hcb2 1
             have r2 : w2.cell? ⟨g, 2, none⟩ = some (.int .i64 (sc 2)) := hcb2 2
             have r3 : w2.cell? ⟨g, 3, none⟩ = some (.int .i64 (sc 3)) := hcb2 3
             have r4 : w2.cell? ⟨g, 4, none⟩ = some (.int .i64 (sc 4)) := hcb2 4
             have r5 : w2.cell? ⟨g, 5, none⟩ = some (.int .i64 (sc 5)) := hcb2 5
             have r6 : w2.cell? ⟨g, 6, none⟩ = some (.int .i64 (sc 6)) := hcb2 6
             have r7 : w2.cell? ⟨g, 7, none⟩ = some (.int .i64 (sc 7)) := hcb2 7
             have r8 : w2.cell? ⟨g, 8, none⟩ = some (.int .i64 (sc 8)) := hcb2 8
             have r9 : w2.cell? ⟨g, 9, none⟩ = some (.int .i64 (sc 9)) := hcb2 9
             have r10 : w2.cell? ⟨g, 10, none⟩ = some (.int .i64 (sc 10)) := hcb2 10
             have r11 : w2.cell? ⟨g, 11, none⟩ = some (.int .i64 (sc 11)) := hcb2 11
             have r12 : w2.cell? ⟨g, 12, none⟩ = some (.int .i64 (sc 12)) := hcb2 12
             have r13 : w2.cell? ⟨g, 13, none⟩ = some (.int .i64 (sc 13)) := hcb2 13
             clear hcb2))
      all_goals
        have hM2 := HM.out.next (show Below wr.heap.size wr w2 from ⟨hbel.os, hbel.tape, hbel.output, hbel.size, hbel.block⟩)
        have hM3 := Sw.scores (scNext sc last (y : Int)) hM2 hgz
        clear hM2 hbel hfr2 r0 r1 r2 r3 r4 r5 r6 r7 r8 r9 r10 r11 r12 r13 s0 s1 s2 s3 s4 s5 s6 s7 s8 s9 s10 s11 s12 s13 hfr HS1
        generalize World.setCell (World.setCell _ _ _) _ _ = W at hM3 ⊢
        have HM3 := Lib.hid hM3
        clear hM3
        go_wp2_with fail
        refine ⟨⟨k + 1, scNext sc last (y : Int), (y : Int), ?_, rfl, by omega, ?_, ?_, by omega, hy2, HM3⟩, by simp [intOf]; omega⟩
        · go_num
        · have hkl : k < bs.data.toList.length := by simpa using hlt
          have h := feedSc_step sc last bs.data.toList k hkl _ HR.out
          rw [show bs.data.toList[k] = c from HCh.out, show Pl.byte c = (y : Int) from by unfold Pl.byte; rw [HY.out]] at h
          exact Lib.hid h
        · have h := HS.out.next (by omega) last (y : Int)
          rw [show ((k + 1 : Nat) : Int) = (k : Int) + 1 by omega]
          exact Lib.hid h
    · have hk2 : k = bs.size := by omega
      subst hk2
      have s0 : wr.cell? ⟨g, 0, none⟩ = some (.int .i64 (sc 0)) := hcb 0
      have s1 : wr.cell? ⟨g, 1, none⟩ = some (.int .i64 (sc 1)) := hcb 1
      have s2 : wr.cell? ⟨g, 2, none⟩ = some (.int .i64 (sc 2)) := hcb 2
      have s3 : wr.cell? ⟨g, 3, none⟩ = some (.int .i64 (sc 3)) := hcb 3
      have s4 : wr.cell? ⟨g, 4, none⟩ = some (.int .i64 (sc 4)) := hcb 4
      have s5 : wr.cell? ⟨g, 5, none⟩ = some (.int .i64 (sc 5)) := hcb 5
      have s6 : wr.cell? ⟨g, 6, none⟩ = some (.int .i64 (sc 6)) := hcb 6
      have s7 : wr.cell? ⟨g, 7, none⟩ = some (.int .i64 (sc 7)) := hcb 7
      have s8 : wr.cell? ⟨g, 8, none⟩ = some (.int .i64 (sc 8)) := hcb 8
      have s9 : wr.cell? ⟨g, 9, none⟩ = some (.int .i64 (sc 9)) := hcb 9
      have s10 : wr.cell? ⟨g, 10, none⟩ = some (.int .i64 (sc 10)) := hcb 10
      have s11 : wr.cell? ⟨g, 11, none⟩ = some (.int .i64 (sc 11)) := hcb 11
      have s12 : wr.cell? ⟨g, 12, none⟩ = some (.int .i64 (sc 12)) := hcb 12
      have s13 : wr.cell? ⟨g, 13, none⟩ = some (.int .i64 (sc 13)) := hcb 13
      have HR2 : Hid ((feedSc (fun _ => 0) (-1) bs.data.toList).1 = sc) := Lib.hid (by rw [← HR.out, List.drop_of_length_le (by simp)]; rfl)
      clear hcb
      go_wp2_with fail
      refine (best_any sc _).mono ?_
      rintro e3 w3 ⟨rfl, hb3⟩
      go_wp2_with fail
      go_ret
      rw [HR2.out]
      exact ⟨rfl, bthen HM.out.below hb3⟩
end Go.Proofs.YtefohnbmifblkaaDoor
