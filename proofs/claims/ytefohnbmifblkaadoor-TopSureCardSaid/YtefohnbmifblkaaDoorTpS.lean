/-
  The walk of TopSure.
-/
import Derived.Test.YtefohnbmifblkaaDoorTpA
namespace Go.Proofs.YtefohnbmifblkaaDoor
open Go.RowKit

set_option maxRecDepth 100000 in
set_option maxHeartbeats 4000000 in
theorem topSure_walk (hint s t : ByteArray) (w : World) (hh : hint.size ≤ maxLen) (hs : s.size ≤ maxLen) (ht : t.size ≤ maxLen) (hst : s.size + t.size ≤ maxLen) (hg : Gl w) :
    Calls Tryd.prog 11 #[.string hint, .string s, .string t] w fun e w' => e = .returned (.bool true) ∧ Below w.heap.size w w' := by
  have HG := Lib.hid hg
  have HH := Lib.hid hh
  have HS := Lib.hid hs
  have HT := Lib.hid ht
  clear hg hh
  unfold maxLen at hst hs ht
  have hst2 : (s.size : Int) + (t.size : Int) ≤ 9223372036854775807 := by omega
  have hfld := field_vd
  go_enter Tryd.func11, Tryd.ntmps11
  go_wp2_with fail
  refine (alive_any _ HG.out).mono ?_
  rintro e1 w1 ⟨rfl, hb1⟩
  have HB1 := Lib.hid hb1
  clear hb1
  by_cases hl : 4000 < s.size + t.size
  · have hl2 : (4000 : Int) < (s.size : Int) + (t.size : Int) := by omega
    go_wp2_with fail
    go_ret
    exact ⟨rfl, HB1.out⟩
  · have hl2 : (s.size : Int) + (t.size : Int) ≤ 4000 := by omega
    go_wp2_with fail
    refine (new_at hint w w1 HB1.out HH.out).mono ?_
    rintro e2 w2 ⟨⟨b, rfl, hb2, hA2⟩, hbl2⟩
    obtain ⟨d0, hd0⟩ : ∃ x, newDS (Pl.find hint.data.toList) = x := ⟨_, rfl⟩
    rw [hd0] at hA2
    have HA2 := Lib.hid hA2
    have HD0 := Lib.hid hd0
    clear hA2 hd0 hbl2
    go_wp2_with fail
    refine (do_at w w2 b d0 1 s HA2.out HG.out HS.out).mono ?_
    rintro e3 w3 ⟨⟨v3, rfl, ho3⟩, hA3, hSt3, hz3⟩
    obtain ⟨d1, hd1⟩ : ∃ x, (doDS d0 1 s.data.toList).1 = x := ⟨_, rfl⟩
    rw [hd1] at hA3
    have HA3 := Lib.hid hA3
    have HD1 := Lib.hid hd1
    obtain ⟨p3, c3, rfl⟩ := own_form ho3
    clear hA3 hd1 hSt3 hz3 ho3
    go_wp2_with fail
    refine (do_at w w3 b d1 2 ⟨#[]⟩ HA3.out HG.out (by decide)).mono ?_
    rintro e4 w4 ⟨⟨v4, rfl, ho4⟩, hA4, hSt4, hz4⟩
    obtain ⟨d2, hd2⟩ : ∃ x, (doDS d1 2 (⟨#[]⟩ : ByteArray).data.toList).1 = x := ⟨_, rfl⟩
    obtain ⟨r2, hr2⟩ : ∃ x, (doDS d1 2 (⟨#[]⟩ : ByteArray).data.toList).2 = x := ⟨_, rfl⟩
    rw [hd2] at hA4
    rw [hr2] at ho4 ⊢
    obtain ⟨cd2, ⟨x2, y2, f2⟩, l2⟩ := r2
    have HA4 := Lib.hid hA4
    have HD2 := Lib.hid hd2
    have HR2 := Lib.hid hr2
    obtain ⟨p4, c4, rfl⟩ := own_form ho4
    clear hA4 hd2 hr2 hSt4 hz4 ho4
    simp only [rpV]
    go_wp2_with fail
    refine (do_at w _ b d2 1 t (HA4.out.alloc _) HG.out HT.out).mono ?_
    rintro e5 w5 ⟨⟨v5, rfl, ho5⟩, hA5, hSt5, hz5⟩
    obtain ⟨d3, hd3⟩ : ∃ x, (doDS d2 1 t.data.toList).1 = x := ⟨_, rfl⟩
    rw [hd3] at hA5
    have HA5 := Lib.hid hA5
    have HD3 := Lib.hid hd3
    have hx5 : w5.heap[w4.heap.size]? = some (.cells #[.int .i64 x2, .int .i64 y2, .bool f2] 35 (0, 0)) := hSt5 _ _ _ _ (by decide) (by decide) (heap_alloc_new w4 _)
    have HX5 := Lib.hid hx5
    obtain ⟨p5, c5, rfl⟩ := own_form ho5
    clear hA5 hd3 hSt5 hz5 ho5 hx5
    go_wp2_with fail
    refine (do_at w w5 b d3 3 ⟨#[]⟩ HA5.out HG.out (by decide)).mono ?_
    rintro e6 w6 ⟨⟨v6, rfl, ho6⟩, hA6, hSt6, hz6⟩
    obtain ⟨r4, hr4⟩ : ∃ x, (doDS d3 3 (⟨#[]⟩ : ByteArray).data.toList).2 = x := ⟨_, rfl⟩
    rw [hr4] at ho6 ⊢
    obtain ⟨cd4, ⟨x4, y4, f4⟩, l4⟩ := r4
    have HB6 := Lib.hid hA6.below
    have hx6 : w6.heap[w4.heap.size]? = some (.cells #[.int .i64 x2, .int .i64 y2, .bool f2] 35 (0, 0)) := hSt6 _ _ _ _ (by decide) (by decide) HX5.out
    have hw46 : w4.heap.size < w6.heap.size := (Array.getElem?_eq_some_iff.1 hx6).1
    have q0 : w6.cell? ⟨w4.heap.size, 0, none⟩ = some (.int .i64 x2) := cell_of_row w6 _ 0 _ _ _ hx6
    have q1 : w6.cell? ⟨w4.heap.size, 1, none⟩ = some (.int .i64 y2) := cell_of_row w6 _ 1 _ _ _ hx6
    have q2 : w6.cell? ⟨w4.heap.size, 2, none⟩ = some (.bool f2) := cell_of_row w6 _ 2 _ _ _ hx6
    obtain ⟨p6, c6, rfl⟩ := own_form ho6
    have hfin : f2 = true → (x4, y4, f4) = (x2, y2, f2) := by
      intro hf
      have h1 := sure_plain (Pl.find hint.data.toList) s.data.toList t.data.toList (by simp; omega)
      rw [show newDS (Pl.find hint.data.toList) = d0 from HD0.out, show (doDS d0 1 s.data.toList).1 = d1 from HD1.out, show (doDS d1 2 []).2 = _ from HR2.out, show (doDS d1 2 []).1 = d2 from HD2.out, show (doDS d2 1 t.data.toList).1 = d3 from HD3.out, show (doDS d3 3 []).2 = _ from hr4] at h1
      exact h1 hf
    clear hA6 hSt6 hz6 ho6 hr4 hx6
    simp only [rpV]
    have hz0 := HB6.out.size
    cases f2
    · clear hfin
      go_wp2_with fail
      all_goals go_ret
      all_goals exact ⟨rfl, HB6.out.alloc hz0 _⟩
    · have h2 := hfin rfl
      simp only [Prod.mk.injEq] at h2
      obtain ⟨rfl, rfl, rfl⟩ := h2
      clear hfin
      go_wp2_with fail
      all_goals go_ret
      all_goals exact ⟨rfl, HB6.out.alloc hz0 _⟩
end Go.Proofs.YtefohnbmifblkaaDoor
