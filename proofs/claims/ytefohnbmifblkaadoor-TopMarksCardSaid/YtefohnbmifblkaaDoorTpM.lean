/-
  The walk of TopMarks.
-/
import Derived.Test.YtefohnbmifblkaaDoorTpA
import Derived.Test.YtefohnbmifblkaaDoorTpE
namespace Go.Proofs.YtefohnbmifblkaaDoor
open Go.RowKit

theorem marks_plain (h : Int) (e : Int) (he : e = 1 ∨ e = 5 ∨ e = 6) (l : List UInt8) (hl : l.length + (markOf e).length ≤ 4000) :
    (doDS (doDS (newDS h) 1 (markOf e ++ l)).1 3 []).2 = ⟨0, (e, 1, true), tell e (markOf e ++ l)⟩ := by
  have e1 : doDS (newDS h) 1 (markOf e ++ l) = (fed (newDS h) (markOf e ++ l), rp0 0) := doDS_feed _ _ (by simp [newDS]) rfl (by simp [newDS]; omega)
  rw [e1]
  dsimp only
  rw [doDS_finish (fed (newDS h) (markOf e ++ l)) [] (by simp [fed, newDS]) rfl]
  have hb : (fin (fed (newDS h) (markOf e ++ l))).bs = markOf e ++ l := by simp [fin, fed, newDS]
  have hb2 : (fed (newDS h) (markOf e ++ l)).bs = markOf e ++ l := by simp [fed, newDS]
  have hv : vd (fin (fed (newDS h) (markOf e ++ l))) = (e, 1, true) := by
    have hm := mark_front e he l
    unfold vd
    rw [hb, hm, if_pos (show e ≠ 0 by omega)]
  rw [hv, hb2]

set_option maxRecDepth 100000 in
set_option maxHeartbeats 4000000 in
theorem topMarks_walk (hint s : ByteArray) (k : Int) (w : World) (hh : hint.size ≤ maxLen) (hs : s.size ≤ maxLen) (hg : Gl w) :
    Calls Tryd.prog 13 #[.string hint, .string s, .int .i64 k] w fun e w' => e = .returned (.bool true) ∧ Below w.heap.size w w' := by
  have HG := Lib.hid hg
  have HH := Lib.hid hh
  have HS := Lib.hid hs
  clear hg hh
  unfold maxLen at hs
  obtain ⟨q, hq⟩ : ∃ q, k.tmod 3 = q := ⟨_, rfl⟩
  have hq0 : -3 < q := by
    rw [← hq]
    exact Int.lt_tmod_of_pos k (by omega)
  have hq1 : q < 3 := by
    rw [← hq]
    exact Int.tmod_lt_of_pos k (by omega)
  go_enter Tryd.func13, Tryd.ntmps13
  go_wp2_with fail
  refine (alive_any _ HG.out).mono ?_
  rintro e1 w1 ⟨rfl, hb1⟩
  have HB1 := Lib.hid hb1
  clear hb1
  by_cases hl : 3997 < s.size
  · have hl2 : (3997 : Int) < (s.size : Int) := by omega
    go_wp2_with fail
    go_ret
    exact ⟨rfl, HB1.out⟩
  have hl2 : (s.size : Int) ≤ 3997 := by omega
  have hmm : (q + 3) % 3 = 0 ∨ (q + 3) % 3 = 1 ∨ (q + 3) % 3 = 2 := by omega
  rcases hmm with hm | hm | hm
  · go_wp2_with fail
    have hbm : Below w1.heap.size w1 ((w1.alloc (.cells #[.string ⟨#[239, 187, 191]⟩, .string ⟨#[255, 254]⟩, .string ⟨#[254, 255]⟩] 9)).alloc (.cells #[.int .i64 1, .int .i64 5, .int .i64 6] 3)) := two_new _ _ _
    have hm2 : ((w1.alloc (.cells #[.string ⟨#[239, 187, 191]⟩, .string ⟨#[255, 254]⟩, .string ⟨#[254, 255]⟩] 9)).alloc (.cells #[.int .i64 1, .int .i64 5, .int .i64 6] 3)).heap[w1.heap.size]? = some (.cells #[.string ⟨#[239, 187, 191]⟩, .string ⟨#[255, 254]⟩, .string ⟨#[254, 255]⟩] 9 (0, 0)) := (Go.Deep.blk_alloc_lt _ _ _ (by simp)).trans (heap_alloc_new w1 _)
    have hbb := bthen HB1.out hbm
    clear hbm
    generalize w1.heap.size = M at hm2 ⊢
    generalize World.alloc _ _ = w2 at hm2 hbb ⊢
    have HM2 := Lib.hid hm2
    have HB2 := Lib.hid hbb
    clear hm2 hbb
    refine (new_at hint w w2 HB2.out HH.out).mono ?_
    rintro e3 w3 ⟨⟨b, rfl, _, hA3⟩, hb3⟩
    have HA3 := Lib.hid hA3
    have HM3 := Lib.hid ((hb3.block _ (Array.getElem?_eq_some_iff.1 HM2.out).1).trans HM2.out)
    have c0 : w3.cell? ⟨M, 0, none⟩ = some (.string ⟨#[239, 187, 191]⟩) := cell_of_row w3 M 0 _ _ _ HM3.out
    clear hA3 hb3
    obtain ⟨T, hT⟩ : ∃ T, (⟨#[239, 187, 191]⟩ : ByteArray) ++ s = T := ⟨_, rfl⟩
    have hTl : T.data.toList = markOf 1 ++ s.data.toList := by
      rw [← hT]
      simp [markOf]
    have hTs : T.size ≤ 4000 := by
      have h : T.data.toList.length = T.size := by simp
      rw [← h, hTl]
      simp [markOf]
      omega
    have HTl := Lib.hid hTl
    have HTs := Lib.hid hTs
    have hpl := marks_plain (Pl.find hint.data.toList) 1 (by omega) s.data.toList (by simp [markOf]; omega)
    rw [← hTl] at hpl
    have htl := tell_front_len 1 (by omega) s.data.toList
    rw [← hTl, show s.data.toList.length = s.size by simp] at htl
    obtain ⟨d0, hd0⟩ : ∃ x, newDS (Pl.find hint.data.toList) = x := ⟨_, rfl⟩
    have hA3 := HA3.out
    rw [hd0] at hA3 hpl
    have HA3 := Lib.hid hA3
    have HPl := Lib.hid hpl
    clear hTl hTs hpl hd0 hA3
    go_wp2_with fail
    refine (do_at w w3 b d0 1 T HA3.out HG.out (by have := HTs.out; unfold maxLen; omega)).mono ?_
    rintro e4 w4 ⟨⟨v4, rfl, ho4⟩, hA4, hSt4, _⟩
    obtain ⟨d1, hd1⟩ : ∃ x, (doDS d0 1 T.data.toList).1 = x := ⟨_, rfl⟩
    have hpl := HPl.out
    rw [hd1] at hA4 hpl
    have HA4 := Lib.hid hA4
    have HM4 := Lib.hid (hSt4 _ _ _ _ (by decide) (by decide) HM3.out)
    have HPl2 := Lib.hid hpl
    obtain ⟨p4, c4, rfl⟩ := own_form ho4
    clear hA4 ho4 hSt4 hd1 hpl c0
    go_wp2_with fail
    refine (do_at w w4 b d1 3 ⟨#[]⟩ HA4.out HG.out (by decide)).mono ?_
    rintro e5 w5 ⟨⟨v5, rfl, ho5⟩, hA5, hSt5, _⟩
    rw [show (⟨#[]⟩ : ByteArray).data.toList = [] from rfl, HPl2.out] at ho5 ⊢
    obtain ⟨out, ho⟩ : ∃ o, tell 1 T.data.toList = o := ⟨_, rfl⟩
    rw [ho] at ho5 htl ⊢
    have HO := Lib.hid ho
    dsimp only at ho5
    obtain ⟨p5, c5, rfl⟩ := own_form ho5
    have HO5 := Lib.hid ho5
    have HA5 := Lib.hid hA5
    have HM5 := Lib.hid (hSt5 _ _ _ _ (by decide) (by decide) HM4.out)
    have c0 : w5.cell? ⟨M, 0, none⟩ = some (.string ⟨#[239, 187, 191]⟩) := cell_of_row w5 M 0 _ _ _ HM5.out
    have hm5 : M < w5.heap.size := lt_of_cell c0
    clear ho5 hA5 hSt5 ho
    simp only [rpV]
    go_wp2_with fail
    have hX : At w b (doDS d1 3 []).1 (w5.alloc (.cells #[.int .i64 0, .int .i64 1, .int .i64 1, .bool true, .slice p5 out.length c5] 38)) := HA5.out.alloc _
    have hR := heap_alloc_new w5 (.cells #[.int .i64 0, .int .i64 1, .int .i64 1, .bool true, .slice p5 out.length c5] 38)
    have hO := own_stay HO5.out (Stay.below ((Below.refl _ _).alloc (Nat.le_refl w5.heap.size) (.cells #[.int .i64 0, .int .i64 1, .int .i64 1, .bool true, .slice p5 out.length c5] 38)))
    obtain ⟨Rz, hRz⟩ : ∃ Rz, w5.heap.size = Rz := ⟨_, rfl⟩
    rw [hRz] at hR
    try rw [hRz]
    clear hRz c0 hm5
    generalize World.alloc _ _ = w6 at hX hR hO ⊢
    have HB6 := Lib.hid hX.below
    have HR6 := Lib.hid hR
    have HO6 := Lib.hid hO
    clear hX hR hO
    refine (tell_any 1 T w6 (by omega) HTs.out (HG.out.below HB6.out)).mono ?_
    rintro e7 w7 ⟨⟨v7, rfl, ho7⟩, hb7⟩
    rw [HO.out] at ho7
    obtain ⟨p7, c7, rfl⟩ := own_form ho7
    have HI5 := Lib.hid (own_ints (own_stay HO6.out (Stay.below hb7)))
    have HI7 := Lib.hid (own_ints ho7)
    have HB7 := Lib.hid (HB6.out.trans (hb7.mono HB6.out.size))
    have hr7 := (hb7.block _ (Array.getElem?_eq_some_iff.1 HR6.out).1).trans HR6.out
    have r0 : w7.cell? ⟨Rz, 0, none⟩ = some (.int .i64 0) := cell_of_row w7 Rz 0 _ _ _ hr7
    have r1 : w7.cell? ⟨Rz, 1, none⟩ = some (.int .i64 1) := cell_of_row w7 Rz 1 _ _ _ hr7
    have r2 : w7.cell? ⟨Rz, 2, none⟩ = some (.int .i64 1) := cell_of_row w7 Rz 2 _ _ _ hr7
    have r3 : w7.cell? ⟨Rz, 3, none⟩ = some (.bool true) := cell_of_row w7 Rz 3 _ _ _ hr7
    have r4 : w7.cell? ⟨Rz, 4, none⟩ = some (.slice p5 out.length c5) := cell_of_row w7 Rz 4 _ _ _ hr7
    have htl2 : (out.length : Int) ≤ (s.size : Int) := by omega
    clear ho7 hb7 hr7
    go_wp2_with fail
    refine (topSame_any w7 _ _ out (by unfold maxLen; omega) HI5.out HI7.out).mono ?_
    rintro e8 w8 ⟨rfl, hd8⟩
    have HB8 := Lib.hid (HB7.out.trans hd8.below)
    have r4 : w8.cell? ⟨Rz, 4, none⟩ = some (.slice p5 out.length c5) := (hd8.cell _).trans r4
    clear hd8
    go_wp2_with fail
    go_ret
    exact ⟨rfl, HB8.out⟩
  · go_wp2_with fail
    have hbm : Below w1.heap.size w1 ((w1.alloc (.cells #[.string ⟨#[239, 187, 191]⟩, .string ⟨#[255, 254]⟩, .string ⟨#[254, 255]⟩] 9)).alloc (.cells #[.int .i64 1, .int .i64 5, .int .i64 6] 3)) := two_new _ _ _
    have hm2 : ((w1.alloc (.cells #[.string ⟨#[239, 187, 191]⟩, .string ⟨#[255, 254]⟩, .string ⟨#[254, 255]⟩] 9)).alloc (.cells #[.int .i64 1, .int .i64 5, .int .i64 6] 3)).heap[w1.heap.size]? = some (.cells #[.string ⟨#[239, 187, 191]⟩, .string ⟨#[255, 254]⟩, .string ⟨#[254, 255]⟩] 9 (0, 0)) := (Go.Deep.blk_alloc_lt _ _ _ (by simp)).trans (heap_alloc_new w1 _)
    have hbb := bthen HB1.out hbm
    clear hbm
    generalize w1.heap.size = M at hm2 ⊢
    generalize World.alloc _ _ = w2 at hm2 hbb ⊢
    have HM2 := Lib.hid hm2
    have HB2 := Lib.hid hbb
    clear hm2 hbb
    refine (new_at hint w w2 HB2.out HH.out).mono ?_
    rintro e3 w3 ⟨⟨b, rfl, _, hA3⟩, hb3⟩
    have HA3 := Lib.hid hA3
    have HM3 := Lib.hid ((hb3.block _ (Array.getElem?_eq_some_iff.1 HM2.out).1).trans HM2.out)
    have c0 : w3.cell? ⟨M, 1, none⟩ = some (.string ⟨#[255, 254]⟩) := cell_of_row w3 M 1 _ _ _ HM3.out
    clear hA3 hb3
    obtain ⟨T, hT⟩ : ∃ T, (⟨#[255, 254]⟩ : ByteArray) ++ s = T := ⟨_, rfl⟩
    have hTl : T.data.toList = markOf 5 ++ s.data.toList := by
      rw [← hT]
      simp [markOf]
    have hTs : T.size ≤ 4000 := by
      have h : T.data.toList.length = T.size := by simp
      rw [← h, hTl]
      simp [markOf]
      omega
    have HTl := Lib.hid hTl
    have HTs := Lib.hid hTs
    have hpl := marks_plain (Pl.find hint.data.toList) 5 (by omega) s.data.toList (by simp [markOf]; omega)
    rw [← hTl] at hpl
    have htl := tell_front_len 5 (by omega) s.data.toList
    rw [← hTl, show s.data.toList.length = s.size by simp] at htl
    obtain ⟨d0, hd0⟩ : ∃ x, newDS (Pl.find hint.data.toList) = x := ⟨_, rfl⟩
    have hA3 := HA3.out
    rw [hd0] at hA3 hpl
    have HA3 := Lib.hid hA3
    have HPl := Lib.hid hpl
    clear hTl hTs hpl hd0 hA3
    go_wp2_with fail
    refine (do_at w w3 b d0 1 T HA3.out HG.out (by have := HTs.out; unfold maxLen; omega)).mono ?_
    rintro e4 w4 ⟨⟨v4, rfl, ho4⟩, hA4, hSt4, _⟩
    obtain ⟨d1, hd1⟩ : ∃ x, (doDS d0 1 T.data.toList).1 = x := ⟨_, rfl⟩
    have hpl := HPl.out
    rw [hd1] at hA4 hpl
    have HA4 := Lib.hid hA4
    have HM4 := Lib.hid (hSt4 _ _ _ _ (by decide) (by decide) HM3.out)
    have HPl2 := Lib.hid hpl
    obtain ⟨p4, c4, rfl⟩ := own_form ho4
    clear hA4 ho4 hSt4 hd1 hpl c0
    go_wp2_with fail
    refine (do_at w w4 b d1 3 ⟨#[]⟩ HA4.out HG.out (by decide)).mono ?_
    rintro e5 w5 ⟨⟨v5, rfl, ho5⟩, hA5, hSt5, _⟩
    rw [show (⟨#[]⟩ : ByteArray).data.toList = [] from rfl, HPl2.out] at ho5 ⊢
    obtain ⟨out, ho⟩ : ∃ o, tell 5 T.data.toList = o := ⟨_, rfl⟩
    rw [ho] at ho5 htl ⊢
    have HO := Lib.hid ho
    dsimp only at ho5
    obtain ⟨p5, c5, rfl⟩ := own_form ho5
    have HO5 := Lib.hid ho5
    have HA5 := Lib.hid hA5
    have HM5 := Lib.hid (hSt5 _ _ _ _ (by decide) (by decide) HM4.out)
    have c0 : w5.cell? ⟨M, 1, none⟩ = some (.string ⟨#[255, 254]⟩) := cell_of_row w5 M 1 _ _ _ HM5.out
    have hm5 : M < w5.heap.size := lt_of_cell c0
    clear ho5 hA5 hSt5 ho
    simp only [rpV]
    go_wp2_with fail
    have hX : At w b (doDS d1 3 []).1 (w5.alloc (.cells #[.int .i64 0, .int .i64 5, .int .i64 1, .bool true, .slice p5 out.length c5] 38)) := HA5.out.alloc _
    have hR := heap_alloc_new w5 (.cells #[.int .i64 0, .int .i64 5, .int .i64 1, .bool true, .slice p5 out.length c5] 38)
    have hO := own_stay HO5.out (Stay.below ((Below.refl _ _).alloc (Nat.le_refl w5.heap.size) (.cells #[.int .i64 0, .int .i64 5, .int .i64 1, .bool true, .slice p5 out.length c5] 38)))
    obtain ⟨Rz, hRz⟩ : ∃ Rz, w5.heap.size = Rz := ⟨_, rfl⟩
    rw [hRz] at hR
    try rw [hRz]
    clear hRz c0 hm5
    generalize World.alloc _ _ = w6 at hX hR hO ⊢
    have HB6 := Lib.hid hX.below
    have HR6 := Lib.hid hR
    have HO6 := Lib.hid hO
    clear hX hR hO
    refine (tell_any 5 T w6 (by omega) HTs.out (HG.out.below HB6.out)).mono ?_
    rintro e7 w7 ⟨⟨v7, rfl, ho7⟩, hb7⟩
    rw [HO.out] at ho7
    obtain ⟨p7, c7, rfl⟩ := own_form ho7
    have HI5 := Lib.hid (own_ints (own_stay HO6.out (Stay.below hb7)))
    have HI7 := Lib.hid (own_ints ho7)
    have HB7 := Lib.hid (HB6.out.trans (hb7.mono HB6.out.size))
    have hr7 := (hb7.block _ (Array.getElem?_eq_some_iff.1 HR6.out).1).trans HR6.out
    have r0 : w7.cell? ⟨Rz, 0, none⟩ = some (.int .i64 0) := cell_of_row w7 Rz 0 _ _ _ hr7
    have r1 : w7.cell? ⟨Rz, 1, none⟩ = some (.int .i64 5) := cell_of_row w7 Rz 1 _ _ _ hr7
    have r2 : w7.cell? ⟨Rz, 2, none⟩ = some (.int .i64 1) := cell_of_row w7 Rz 2 _ _ _ hr7
    have r3 : w7.cell? ⟨Rz, 3, none⟩ = some (.bool true) := cell_of_row w7 Rz 3 _ _ _ hr7
    have r4 : w7.cell? ⟨Rz, 4, none⟩ = some (.slice p5 out.length c5) := cell_of_row w7 Rz 4 _ _ _ hr7
    have htl2 : (out.length : Int) ≤ (s.size : Int) := by omega
    clear ho7 hb7 hr7
    go_wp2_with fail
    refine (topSame_any w7 _ _ out (by unfold maxLen; omega) HI5.out HI7.out).mono ?_
    rintro e8 w8 ⟨rfl, hd8⟩
    have HB8 := Lib.hid (HB7.out.trans hd8.below)
    have r4 : w8.cell? ⟨Rz, 4, none⟩ = some (.slice p5 out.length c5) := (hd8.cell _).trans r4
    clear hd8
    go_wp2_with fail
    go_ret
    exact ⟨rfl, HB8.out⟩
  · go_wp2_with fail
    have hbm : Below w1.heap.size w1 ((w1.alloc (.cells #[.string ⟨#[239, 187, 191]⟩, .string ⟨#[255, 254]⟩, .string ⟨#[254, 255]⟩] 9)).alloc (.cells #[.int .i64 1, .int .i64 5, .int .i64 6] 3)) := two_new _ _ _
    have hm2 : ((w1.alloc (.cells #[.string ⟨#[239, 187, 191]⟩, .string ⟨#[255, 254]⟩, .string ⟨#[254, 255]⟩] 9)).alloc (.cells #[.int .i64 1, .int .i64 5, .int .i64 6] 3)).heap[w1.heap.size]? = some (.cells #[.string ⟨#[239, 187, 191]⟩, .string ⟨#[255, 254]⟩, .string ⟨#[254, 255]⟩] 9 (0, 0)) := (Go.Deep.blk_alloc_lt _ _ _ (by simp)).trans (heap_alloc_new w1 _)
    have hbb := bthen HB1.out hbm
    clear hbm
    generalize w1.heap.size = M at hm2 ⊢
    generalize World.alloc _ _ = w2 at hm2 hbb ⊢
    have HM2 := Lib.hid hm2
    have HB2 := Lib.hid hbb
    clear hm2 hbb
    refine (new_at hint w w2 HB2.out HH.out).mono ?_
    rintro e3 w3 ⟨⟨b, rfl, _, hA3⟩, hb3⟩
    have HA3 := Lib.hid hA3
    have HM3 := Lib.hid ((hb3.block _ (Array.getElem?_eq_some_iff.1 HM2.out).1).trans HM2.out)
    have c0 : w3.cell? ⟨M, 2, none⟩ = some (.string ⟨#[254, 255]⟩) := cell_of_row w3 M 2 _ _ _ HM3.out
    clear hA3 hb3
    obtain ⟨T, hT⟩ : ∃ T, (⟨#[254, 255]⟩ : ByteArray) ++ s = T := ⟨_, rfl⟩
    have hTl : T.data.toList = markOf 6 ++ s.data.toList := by
      rw [← hT]
      simp [markOf]
    have hTs : T.size ≤ 4000 := by
      have h : T.data.toList.length = T.size := by simp
      rw [← h, hTl]
      simp [markOf]
      omega
    have HTl := Lib.hid hTl
    have HTs := Lib.hid hTs
    have hpl := marks_plain (Pl.find hint.data.toList) 6 (by omega) s.data.toList (by simp [markOf]; omega)
    rw [← hTl] at hpl
    have htl := tell_front_len 6 (by omega) s.data.toList
    rw [← hTl, show s.data.toList.length = s.size by simp] at htl
    obtain ⟨d0, hd0⟩ : ∃ x, newDS (Pl.find hint.data.toList) = x := ⟨_, rfl⟩
    have hA3 := HA3.out
    rw [hd0] at hA3 hpl
    have HA3 := Lib.hid hA3
    have HPl := Lib.hid hpl
    clear hTl hTs hpl hd0 hA3
    go_wp2_with fail
    refine (do_at w w3 b d0 1 T HA3.out HG.out (by have := HTs.out; unfold maxLen; omega)).mono ?_
    rintro e4 w4 ⟨⟨v4, rfl, ho4⟩, hA4, hSt4, _⟩
    obtain ⟨d1, hd1⟩ : ∃ x, (doDS d0 1 T.data.toList).1 = x := ⟨_, rfl⟩
    have hpl := HPl.out
    rw [hd1] at hA4 hpl
    have HA4 := Lib.hid hA4
    have HM4 := Lib.hid (hSt4 _ _ _ _ (by decide) (by decide) HM3.out)
    have HPl2 := Lib.hid hpl
    obtain ⟨p4, c4, rfl⟩ := own_form ho4
    clear hA4 ho4 hSt4 hd1 hpl c0
    go_wp2_with fail
    refine (do_at w w4 b d1 3 ⟨#[]⟩ HA4.out HG.out (by decide)).mono ?_
    rintro e5 w5 ⟨⟨v5, rfl, ho5⟩, hA5, hSt5, _⟩
    rw [show (⟨#[]⟩ : ByteArray).data.toList = [] from rfl, HPl2.out] at ho5 ⊢
    obtain ⟨out, ho⟩ : ∃ o, tell 6 T.data.toList = o := ⟨_, rfl⟩
    rw [ho] at ho5 htl ⊢
    have HO := Lib.hid ho
    dsimp only at ho5
    obtain ⟨p5, c5, rfl⟩ := own_form ho5
    have HO5 := Lib.hid ho5
    have HA5 := Lib.hid hA5
    have HM5 := Lib.hid (hSt5 _ _ _ _ (by decide) (by decide) HM4.out)
    have c0 : w5.cell? ⟨M, 2, none⟩ = some (.string ⟨#[254, 255]⟩) := cell_of_row w5 M 2 _ _ _ HM5.out
    have hm5 : M < w5.heap.size := lt_of_cell c0
    clear ho5 hA5 hSt5 ho
    simp only [rpV]
    go_wp2_with fail
    have hX : At w b (doDS d1 3 []).1 (w5.alloc (.cells #[.int .i64 0, .int .i64 6, .int .i64 1, .bool true, .slice p5 out.length c5] 38)) := HA5.out.alloc _
    have hR := heap_alloc_new w5 (.cells #[.int .i64 0, .int .i64 6, .int .i64 1, .bool true, .slice p5 out.length c5] 38)
    have hO := own_stay HO5.out (Stay.below ((Below.refl _ _).alloc (Nat.le_refl w5.heap.size) (.cells #[.int .i64 0, .int .i64 6, .int .i64 1, .bool true, .slice p5 out.length c5] 38)))
    obtain ⟨Rz, hRz⟩ : ∃ Rz, w5.heap.size = Rz := ⟨_, rfl⟩
    rw [hRz] at hR
    try rw [hRz]
    clear hRz c0 hm5
    generalize World.alloc _ _ = w6 at hX hR hO ⊢
    have HB6 := Lib.hid hX.below
    have HR6 := Lib.hid hR
    have HO6 := Lib.hid hO
    clear hX hR hO
    refine (tell_any 6 T w6 (by omega) HTs.out (HG.out.below HB6.out)).mono ?_
    rintro e7 w7 ⟨⟨v7, rfl, ho7⟩, hb7⟩
    rw [HO.out] at ho7
    obtain ⟨p7, c7, rfl⟩ := own_form ho7
    have HI5 := Lib.hid (own_ints (own_stay HO6.out (Stay.below hb7)))
    have HI7 := Lib.hid (own_ints ho7)
    have HB7 := Lib.hid (HB6.out.trans (hb7.mono HB6.out.size))
    have hr7 := (hb7.block _ (Array.getElem?_eq_some_iff.1 HR6.out).1).trans HR6.out
    have r0 : w7.cell? ⟨Rz, 0, none⟩ = some (.int .i64 0) := cell_of_row w7 Rz 0 _ _ _ hr7
    have r1 : w7.cell? ⟨Rz, 1, none⟩ = some (.int .i64 6) := cell_of_row w7 Rz 1 _ _ _ hr7
    have r2 : w7.cell? ⟨Rz, 2, none⟩ = some (.int .i64 1) := cell_of_row w7 Rz 2 _ _ _ hr7
    have r3 : w7.cell? ⟨Rz, 3, none⟩ = some (.bool true) := cell_of_row w7 Rz 3 _ _ _ hr7
    have r4 : w7.cell? ⟨Rz, 4, none⟩ = some (.slice p5 out.length c5) := cell_of_row w7 Rz 4 _ _ _ hr7
    have htl2 : (out.length : Int) ≤ (s.size : Int) := by omega
    clear ho7 hb7 hr7
    go_wp2_with fail
    refine (topSame_any w7 _ _ out (by unfold maxLen; omega) HI5.out HI7.out).mono ?_
    rintro e8 w8 ⟨rfl, hd8⟩
    have HB8 := Lib.hid (HB7.out.trans hd8.below)
    have r4 : w8.cell? ⟨Rz, 4, none⟩ = some (.slice p5 out.length c5) := (hd8.cell _).trans r4
    clear hd8
    go_wp2_with fail
    go_ret
    exact ⟨rfl, HB8.out⟩
end Go.Proofs.YtefohnbmifblkaaDoor
