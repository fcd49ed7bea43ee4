/-
  The walk of the references' JudgeOf.
-/
import Derived.Test.YtefohnbmifblkaaDoorJdB
import Derived.Test.YtefohnbmifblkaaDoorRfW
namespace Go.Proofs.YtefohnbmifblkaaDoor
open Go.RowKit

set_option maxRecDepth 100000 in
set_option maxHeartbeats 4000000 in
theorem judgeOf_any (h : Int) (bs : ByteArray) (w : World) (hl : bs.size ≤ 4000) (hmx : Mx w) :
    Calls Tryd.prog 36 #[.int .i64 h, .string bs] w fun e w' => e = .returned (.agg #[.int .i64 (jd h bs.data.toList).1, .int .i64 (jd h bs.data.toList).2, .bool false]) ∧ Below w.heap.size w w' := by
  have HG := Lib.hid hmx
  have HS := Lib.hid (show bs.size ≤ maxLen by unfold maxLen; omega)
  have HL := Lib.hid hl
  have hmr := mark_range bs.data.toList
  have hlr := label_range bs.data.toList
  clear hmx hl
  rcases hm : Pl.mark bs.data.toList with ⟨m, n⟩
  rcases hlb : Pl.label bs.data.toList with ⟨q, f⟩
  rw [hm] at hmr
  rw [hlb] at hlr
  dsimp only at hmr hlr
  obtain ⟨B, hB⟩ : ∃ B, best bs.data.toList = B := ⟨_, rfl⟩
  unfold jd
  rw [hm, hlb, hB]
  dsimp only
  have HM := Lib.hid hm
  have HQ := Lib.hid hlb
  have HB : Hid (∀ W, Calls Tryd.prog 54 #[.string bs] W fun e w' => e = .returned (.int .i64 (B : Nat)) ∧ Below W.heap.size W w') := Lib.hid fun W => by
    have := bestOf_any bs W HL.out
    rwa [hB] at this
  clear hm hlb hB
  by_cases hm0 : m = 0
  · subst hm0
    rw [if_neg (by omega)]
    by_cases hh : 1 ≤ h ∧ h ≤ 6
    · rw [if_pos hh]
      obtain ⟨hh0, hh1⟩ := hh
      go_enter Tryd.func36, Tryd.ntmps36
      go_wp2_with fail
      have L0 := Loc1.lay w #[.int .i64 0, .int .i64 0, .bool false] 35
      generalize World.alloc _ _ = w0 at L0 ⊢
      obtain ⟨fx0, ff0⟩ := L0.cells
      refine (markOf_any _ _).mono ?_
      rintro e1 w1 ⟨rfl, hd1⟩
      rw [HM.out]
      have L1 := L0.next (show Below _ _ w1 from hd1 ▸ Below.refl _ _)
      obtain ⟨fx1, ff1⟩ := L1.cells
      clear hd1 fx0 ff0
      go_wp2_with fail
      refine bodyPost_ret (v := .agg #[.int .i64 h, .int .i64 2, .bool false]) (by simp [results, Tryd.results36, go_sem, fx1]) rfl ⟨rfl, ?_⟩
      exact L1.set3 _ _ _
    rw [if_neg hh]
    have hh' : h < 1 ∨ 6 < h := by omega
    by_cases hq0 : q = 0
    · subst hq0
      rw [if_neg (by omega)]
      by_cases hB0 : B = 0
      · subst hB0
        rw [if_neg (by omega)]
        rcases hh' with hh1 | hh1
        all_goals
          go_enter Tryd.func36, Tryd.ntmps36
          go_wp2_with fail
          have L0 := Loc1.lay w #[.int .i64 0, .int .i64 0, .bool false] 35
          generalize World.alloc _ _ = w0 at L0 ⊢
          obtain ⟨fx0, ff0⟩ := L0.cells
          refine (markOf_any _ _).mono ?_
          rintro e1 w1 ⟨rfl, hd1⟩
          rw [HM.out]
          have L1 := L0.next (show Below _ _ w1 from hd1 ▸ Below.refl _ _)
          obtain ⟨fx1, ff1⟩ := L1.cells
          clear hd1 fx0 ff0
          go_wp2_with fail
          refine (labelOf_any _ _ HS.out (HG.out.below L1.below)).mono ?_
          rintro e2 w2 ⟨rfl, hd2⟩
          rw [HQ.out]
          have L2 := L1.next hd2
          obtain ⟨fx2, ff2⟩ := L2.cells
          clear hd2 fx1 ff1
          go_wp2_with fail
          refine (HB.out _).mono ?_
          rintro e3 w3 ⟨rfl, hd3⟩
          have L3 := L2.next hd3
          obtain ⟨fx3, ff3⟩ := L3.cells
          clear hd3 fx2 ff2
          go_wp2_with fail
          refine bodyPost_ret (v := .agg #[.int .i64 4, .int .i64 0, .bool false]) (by simp [results, Tryd.results36, go_sem, fx3]) rfl ⟨rfl, ?_⟩
          exact L3.set3 _ _ _
      · rw [if_pos hB0]
        have hBb : ((B : Int) != 0) = true := by rw [bne_iff_ne]; omega
        have hBp : 0 < (B : Int) := by omega
        rcases hh' with hh1 | hh1
        all_goals
          go_enter Tryd.func36, Tryd.ntmps36
          go_wp2_with fail
          have L0 := Loc1.lay w #[.int .i64 0, .int .i64 0, .bool false] 35
          generalize World.alloc _ _ = w0 at L0 ⊢
          obtain ⟨fx0, ff0⟩ := L0.cells
          refine (markOf_any _ _).mono ?_
          rintro e1 w1 ⟨rfl, hd1⟩
          rw [HM.out]
          have L1 := L0.next (show Below _ _ w1 from hd1 ▸ Below.refl _ _)
          obtain ⟨fx1, ff1⟩ := L1.cells
          clear hd1 fx0 ff0
          go_wp2_with fail
          refine (labelOf_any _ _ HS.out (HG.out.below L1.below)).mono ?_
          rintro e2 w2 ⟨rfl, hd2⟩
          rw [HQ.out]
          have L2 := L1.next hd2
          obtain ⟨fx2, ff2⟩ := L2.cells
          clear hd2 fx1 ff1
          go_wp2_with fail
          refine (HB.out _).mono ?_
          rintro e3 w3 ⟨rfl, hd3⟩
          have L3 := L2.next hd3
          obtain ⟨fx3, ff3⟩ := L3.cells
          clear hd3 fx2 ff2
          go_wp2_with fail
          refine bodyPost_ret (v := .agg #[.int .i64 (B : Int), .int .i64 4, .bool false]) (by simp [results, Tryd.results36, go_sem, fx3]) rfl ⟨rfl, ?_⟩
          exact L3.set3 _ _ _
    · rw [if_pos hq0]
      have hqb : (q != 0) = true := by rw [bne_iff_ne]; exact hq0
      have hqp : 0 < q := by omega
      rcases hh' with hh1 | hh1
      all_goals
        go_enter Tryd.func36, Tryd.ntmps36
        go_wp2_with fail
        have L0 := Loc1.lay w #[.int .i64 0, .int .i64 0, .bool false] 35
        generalize World.alloc _ _ = w0 at L0 ⊢
        obtain ⟨fx0, ff0⟩ := L0.cells
        refine (markOf_any _ _).mono ?_
        rintro e1 w1 ⟨rfl, hd1⟩
        rw [HM.out]
        have L1 := L0.next (show Below _ _ w1 from hd1 ▸ Below.refl _ _)
        obtain ⟨fx1, ff1⟩ := L1.cells
        clear hd1 fx0 ff0
        go_wp2_with fail
        refine (labelOf_any _ _ HS.out (HG.out.below L1.below)).mono ?_
        rintro e2 w2 ⟨rfl, hd2⟩
        rw [HQ.out]
        have L2 := L1.next hd2
        obtain ⟨fx2, ff2⟩ := L2.cells
        clear hd2 fx1 ff1
        go_wp2_with fail
        refine bodyPost_ret (v := .agg #[.int .i64 q, .int .i64 3, .bool false]) (by simp [results, Tryd.results36, go_sem, fx2]) rfl ⟨rfl, ?_⟩
        exact L2.set3 _ _ _
  · rw [if_pos hm0]
    have hmb : (m != 0) = true := by rw [bne_iff_ne]; exact hm0
    have hmp : 0 < m := by omega
    go_enter Tryd.func36, Tryd.ntmps36
    go_wp2_with fail
    have L0 := Loc1.lay w #[.int .i64 0, .int .i64 0, .bool false] 35
    generalize World.alloc _ _ = w0 at L0 ⊢
    obtain ⟨fx0, ff0⟩ := L0.cells
    refine (markOf_any _ _).mono ?_
    rintro e1 w1 ⟨rfl, hd1⟩
    rw [HM.out]
    have L1 := L0.next (show Below _ _ w1 from hd1 ▸ Below.refl _ _)
    obtain ⟨fx1, ff1⟩ := L1.cells
    clear hd1 fx0 ff0
    go_wp2_with fail
    refine bodyPost_ret (v := .agg #[.int .i64 m, .int .i64 1, .bool false]) (by simp [results, Tryd.results36, go_sem, fx1]) rfl ⟨rfl, ?_⟩
    exact L1.set3 _ _ _
end Go.Proofs.YtefohnbmifblkaaDoor
