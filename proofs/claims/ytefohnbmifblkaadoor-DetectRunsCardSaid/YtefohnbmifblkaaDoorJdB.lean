/-
  The walk of Judge; it says what a detector says at the end.
-/
import Derived.Test.YtefohnbmifblkaaDoorJdA
import Derived.Test.YtefohnbmifblkaaDoorDoG
namespace Go.Proofs.YtefohnbmifblkaaDoor
open Go.RowKit

/-- a later world in which the call's one own row stands as it was laid. -/
structure Loc1 (w : World) (x : Array Value) (t : TypeId) (w1 : World) : Prop where
  below : Below w.heap.size w w1
  hx : w1.heap[w.heap.size]? = some (.cells x t (0, 0))
theorem Loc1.lay (w : World) (x : Array Value) (t : TypeId) : Loc1 w x t (w.alloc (.cells x t)) := ⟨(Below.refl _ _).alloc (Nat.le_refl _) _, heap_alloc_new w _⟩
theorem Loc1.next {w w1 w2 : World} {x : Array Value} {t : TypeId} (h : Loc1 w x t w1) (k : Below w1.heap.size w1 w2) : Loc1 w x t w2 := ⟨bthen h.below k, (k.block _ (Array.getElem?_eq_some_iff.1 h.hx).1).trans h.hx⟩
theorem Loc1.cells {w w1 : World} {x : Array Value} {t : TypeId} (h : Loc1 w x t w1) : (∀ k, w1.cell? ⟨w.heap.size, k, none⟩ = x[k]?) ∧ (∀ k, w1.frozen? ⟨w.heap.size, k, none⟩ = false) :=
  ⟨fun k => cell_of_row w1 _ k _ _ _ h.hx, fun _ => by unfold World.frozen?; simp [h.hx]⟩
theorem Loc1.set3 {w w1 : World} {x : Array Value} {t : TypeId} (h : Loc1 w x t w1) (a b c : Value) : Below w.heap.size w (((w1.setCell ⟨w.heap.size, 0, none⟩ a).setCell ⟨w.heap.size, 1, none⟩ b).setCell ⟨w.heap.size, 2, none⟩ c) :=
  ((h.below.setCell (p := ⟨w.heap.size, 0, none⟩) (Nat.le_refl _) a).setCell (p := ⟨w.heap.size, 1, none⟩) (Nat.le_refl _) b).setCell (p := ⟨w.heap.size, 2, none⟩) (Nat.le_refl _) c

def best (l : List UInt8) : Nat := bestTo (feedSc (fun _ => 0) (-1) l).1 6
/-- what Judge says. -/
def jd (h : Int) (l : List UInt8) : Int × Int :=
  if (Pl.mark l).1 ≠ 0 then ((Pl.mark l).1, 1) else if 1 ≤ h ∧ h ≤ 6 then (h, 2) else if (Pl.label l).1 ≠ 0 then ((Pl.label l).1, 3) else if best l ≠ 0 then ((best l : Int), 4) else (4, 0)

set_option maxRecDepth 100000 in
set_option maxHeartbeats 4000000 in
theorem judge_any (h : Int) (bs : ByteArray) (w : World) (hl : bs.size ≤ 4000) (hg : Gl w) :
    Calls Tryd.prog 35 #[.int .i64 h, .string bs] w fun e w' => e = .returned (.agg #[.int .i64 (jd h bs.data.toList).1, .int .i64 (jd h bs.data.toList).2, .bool false]) ∧ Below w.heap.size w w' := by
  have HG := Lib.hid hg
  have HS := Lib.hid (show bs.size ≤ maxLen by unfold maxLen; omega)
  have HL := Lib.hid hl
  have hmr := mark_range bs.data.toList
  have hlr := label_range bs.data.toList
  clear hg hl
  rcases hm : Pl.mark bs.data.toList with ⟨m, n⟩
  rcases hlb : Pl.label bs.data.toList with ⟨q, f⟩
  rw [hm] at hmr
  rw [hlb] at hlr
  dsimp only at hmr hlr
  obtain ⟨B, hB⟩ : ∃ B, best bs.data.toList = B := ⟨_, rfl⟩
  unfold jd
  rw [hm, hlb, hB]
  dsimp only
  have HM := Lib.hid hm
  have HQ := Lib.hid hlb
  have HB : Hid (∀ W, Calls Tryd.prog 53 #[.string bs] W fun e w' => e = .returned (.int .i64 (B : Nat)) ∧ Below W.heap.size W w') := Lib.hid fun W => by
    have := whole_score bs W HL.out
    rwa [show bestTo (feedSc (fun _ => 0) (-1) bs.data.toList).1 6 = B from hB] at this
  clear hm hlb hB
  by_cases hm0 : m = 0
  · subst hm0
    rw [if_neg (by omega)]
    by_cases hh : 1 ≤ h ∧ h ≤ 6
    · rw [if_pos hh]
      obtain ⟨hh0, hh1⟩ := hh
      go_enter Tryd.func35, Tryd.ntmps35
      go_wp2_with fail
      have L0 := Loc1.lay w #[.int .i64 0, .int .i64 0, .bool false] 35
      generalize World.alloc _ _ = w0 at L0 ⊢
      obtain ⟨fx0, ff0⟩ := L0.cells
      refine (mark_any _ _ (HG.out.below L0.below)).mono ?_
      rintro e1 w1 ⟨rfl, hd1⟩
      rw [HM.out]
      have L1 := L0.next hd1.below
      obtain ⟨fx1, ff1⟩ := L1.cells
      clear hd1 fx0 ff0
      go_wp2_with fail
      refine bodyPost_ret (v := .agg #[.int .i64 h, .int .i64 2, .bool false]) (by simp [results, Tryd.results35, go_sem, fx1]) rfl ⟨rfl, ?_⟩
      exact L1.set3 _ _ _
    rw [if_neg hh]
    have hh' : h < 1 ∨ 6 < h := by omega
    by_cases hq0 : q = 0
    · subst hq0
      rw [if_neg (by omega)]
      by_cases hB0 : B = 0
      · subst hB0
        rw [if_neg (by omega)]
        rcases hh' with hh1 | hh1
        all_goals
          go_enter Tryd.func35, Tryd.ntmps35
          go_wp2_with fail
          have L0 := Loc1.lay w #[.int .i64 0, .int .i64 0, .bool false] 35
          generalize World.alloc _ _ = w0 at L0 ⊢
          obtain ⟨fx0, ff0⟩ := L0.cells
          refine (mark_any _ _ (HG.out.below L0.below)).mono ?_
          rintro e1 w1 ⟨rfl, hd1⟩
          rw [HM.out]
          have L1 := L0.next hd1.below
          obtain ⟨fx1, ff1⟩ := L1.cells
          clear hd1 fx0 ff0
          go_wp2_with fail
          refine (labelFn_any _ _ HS.out).mono ?_
          rintro e2 w2 ⟨rfl, hd2⟩
          rw [HQ.out]
          have L2 := L1.next hd2
          obtain ⟨fx2, ff2⟩ := L2.cells
          clear hd2 fx1 ff1
          go_wp2_with fail
          refine (HB.out _).mono ?_
          rintro e3 w3 ⟨rfl, hd3⟩
          have L3 := L2.next hd3
          obtain ⟨fx3, ff3⟩ := L3.cells
          clear hd3 fx2 ff2
          go_wp2_with fail
          refine bodyPost_ret (v := .agg #[.int .i64 4, .int .i64 0, .bool false]) (by simp [results, Tryd.results35, go_sem, fx3]) rfl ⟨rfl, ?_⟩
          exact L3.set3 _ _ _
      · rw [if_pos hB0]
        have hBb : ((B : Int) != 0) = true := by rw [bne_iff_ne]; omega
        have hBp : 0 < (B : Int) := by omega
        rcases hh' with hh1 | hh1
        all_goals
          go_enter Tryd.func35, Tryd.ntmps35
          go_wp2_with fail
          have L0 := Loc1.lay w #[.int .i64 0, .int .i64 0, .bool false] 35
          generalize World.alloc _ _ = w0 at L0 ⊢
          obtain ⟨fx0, ff0⟩ := L0.cells
          refine (mark_any _ _ (HG.out.below L0.below)).mono ?_
          rintro e1 w1 ⟨rfl, hd1⟩
          rw [HM.out]
          have L1 := L0.next hd1.below
          obtain ⟨fx1, ff1⟩ := L1.cells
          clear hd1 fx0 ff0
          go_wp2_with fail
          refine (labelFn_any _ _ HS.out).mono ?_
          rintro e2 w2 ⟨rfl, hd2⟩
          rw [HQ.out]
          have L2 := L1.next hd2
          obtain ⟨fx2, ff2⟩ := L2.cells
          clear hd2 fx1 ff1
          go_wp2_with fail
          refine (HB.out _).mono ?_
          rintro e3 w3 ⟨rfl, hd3⟩
          have L3 := L2.next hd3
          obtain ⟨fx3, ff3⟩ := L3.cells
          clear hd3 fx2 ff2
          go_wp2_with fail
          refine bodyPost_ret (v := .agg #[.int .i64 (B : Int), .int .i64 4, .bool false]) (by simp [results, Tryd.results35, go_sem, fx3]) rfl ⟨rfl, ?_⟩
          exact L3.set3 _ _ _
    · rw [if_pos hq0]
      have hqb : (q != 0) = true := by rw [bne_iff_ne]; exact hq0
      have hqp : 0 < q := by omega
      rcases hh' with hh1 | hh1
      all_goals
        go_enter Tryd.func35, Tryd.ntmps35
        go_wp2_with fail
        have L0 := Loc1.lay w #[.int .i64 0, .int .i64 0, .bool false] 35
        generalize World.alloc _ _ = w0 at L0 ⊢
        obtain ⟨fx0, ff0⟩ := L0.cells
        refine (mark_any _ _ (HG.out.below L0.below)).mono ?_
        rintro e1 w1 ⟨rfl, hd1⟩
        rw [HM.out]
        have L1 := L0.next hd1.below
        obtain ⟨fx1, ff1⟩ := L1.cells
        clear hd1 fx0 ff0
        go_wp2_with fail
        refine (labelFn_any _ _ HS.out).mono ?_
        rintro e2 w2 ⟨rfl, hd2⟩
        rw [HQ.out]
        have L2 := L1.next hd2
        obtain ⟨fx2, ff2⟩ := L2.cells
        clear hd2 fx1 ff1
        go_wp2_with fail
        refine bodyPost_ret (v := .agg #[.int .i64 q, .int .i64 3, .bool false]) (by simp [results, Tryd.results35, go_sem, fx2]) rfl ⟨rfl, ?_⟩
        exact L2.set3 _ _ _
  · rw [if_pos hm0]
    have hmb : (m != 0) = true := by rw [bne_iff_ne]; exact hm0
    have hmp : 0 < m := by omega
    go_enter Tryd.func35, Tryd.ntmps35
    go_wp2_with fail
    have L0 := Loc1.lay w #[.int .i64 0, .int .i64 0, .bool false] 35
    generalize World.alloc _ _ = w0 at L0 ⊢
    obtain ⟨fx0, ff0⟩ := L0.cells
    refine (mark_any _ _ (HG.out.below L0.below)).mono ?_
    rintro e1 w1 ⟨rfl, hd1⟩
    rw [HM.out]
    have L1 := L0.next hd1.below
    obtain ⟨fx1, ff1⟩ := L1.cells
    clear hd1 fx0 ff0
    go_wp2_with fail
    refine bodyPost_ret (v := .agg #[.int .i64 m, .int .i64 1, .bool false]) (by simp [results, Tryd.results35, go_sem, fx1]) rfl ⟨rfl, ?_⟩
    exact L1.set3 _ _ _

/-- the scores are those of the bytes. -/
def ScF (d : DS) : Prop := feedSc (fun _ => 0) (-1) d.bs = (d.sc, d.last)
theorem ScF.new (h : Int) : ScF (newDS h) := rfl
theorem ScF.fed {d : DS} (h : ScF d) (l : List UInt8) : ScF (fed d l) := by
  show feedSc (fun _ => 0) (-1) (d.bs ++ l) = ((feedSc d.sc d.last l).1, (feedSc d.sc d.last l).2)
  rw [feedSc_app, show feedSc (fun _ => 0) (-1) d.bs = (d.sc, d.last) from h]
theorem ScF.doDS {d : DS} (h : ScF d) (k : Int) (l : List UInt8) : ScF (doDS d k l).1 := by
  unfold Go.Proofs.YtefohnbmifblkaaDoor.doDS
  repeat' split
  all_goals first
    | exact h
    | exact h.fed l
theorem ScF.run {d : DS} (h : ScF d) (l : List Ac) : ScF (runA d l) := by
  induction l generalizing d with
  | nil => exact h
  | cons a l ih => exact ih (d := act d a) (h.doDS _ _)
theorem vd_jd (d : DS) (h : ScF d) (h0 : 0 ≤ d.hint) (h1 : d.hint ≤ 6) : ((vd d).1, (vd d).2.1) = jd d.hint d.bs := by
  have hb : best d.bs = bestTo d.sc 6 := by
    unfold best
    rw [show feedSc (fun _ => 0) (-1) d.bs = (d.sc, d.last) from h]
  unfold vd jd
  rw [hb]
  by_cases c1 : (Pl.mark d.bs).1 ≠ 0
  · rw [if_pos c1, if_pos c1]
  rw [if_neg c1, if_neg c1]
  by_cases c2 : d.hint ≠ 0
  · rw [if_pos c2, if_pos (show 1 ≤ d.hint ∧ d.hint ≤ 6 by omega)]
  rw [if_neg c2, if_neg (show ¬ (1 ≤ d.hint ∧ d.hint ≤ 6) by omega)]
  by_cases c3 : (Pl.label d.bs).1 ≠ 0
  · rw [if_pos c3, if_pos c3]
  rw [if_neg c3, if_neg c3]
  by_cases c4 : bestTo d.sc 6 ≠ 0
  · rw [if_pos c4, if_pos c4]
  rw [if_neg c4, if_neg c4]
end Go.Proofs.YtefohnbmifblkaaDoor
