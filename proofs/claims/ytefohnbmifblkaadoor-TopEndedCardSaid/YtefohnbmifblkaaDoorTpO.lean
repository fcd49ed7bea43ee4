/-
  The walk of TopEnded.
-/
import Derived.Test.YtefohnbmifblkaaDoorTpH
import Derived.Test.YtefohnbmifblkaaDoorTpR
namespace Go.Proofs.YtefohnbmifblkaaDoor
open Go.RowKit

theorem alloc_reply {w wi : World} {b : Nat} {d : DS} (h : At w b d wi) (cs : Array Value) : At w b d (wi.alloc (.cells cs 38)) ∧ (wi.alloc (.cells cs 38)).heap[wi.heap.size]? = some (.cells cs 38 (0, 0)) ∧ Stay wi (wi.alloc (.cells cs 38)) :=
  ⟨h.alloc _, heap_alloc_new wi _, Stay.below ((Below.refl _ _).alloc (Nat.le_refl _) _)⟩

theorem field_code (cd x y : Int) (f : Bool) (v : Value) (W : World) : (Instr.field 38 (.agg #[.int .i64 cd, .int .i64 x, .int .i64 y, .bool f, v]) 0).run Tryd.prog W = .ok (.int .i64 cd) W := by
  have hI : (Tryd.prog.info? 33).map (fun i => i.size) = some 1 := by kernel_rfl
  obtain ⟨i, hi, h3⟩ := Option.map_eq_some_iff.1 hI
  have hU := Tryd.underlying38
  have hV := Tryd.underlying33
  simp [Instr.field, run_underlying hU, run_underlying hV, asAgg, part, isAgg, sizeOf, typeInfo, hi, h3]

set_option maxRecDepth 100000 in
set_option maxHeartbeats 4000000 in
theorem topEnded_walk (hint : ByteArray) (v : Value) (l : List Ac) (k : Int) (bs : ByteArray) (w : World) (hh : hint.size ≤ maxLen) (hs : bs.size ≤ maxLen) (hl : Acts w v l) (hg : Gl w) :
    Calls Tryd.prog 14 #[.string hint, v, .agg #[.int .i64 k, .string bs]] w fun e w' => e = .returned (.bool true) ∧ Below w.heap.size w w' := by
  have HG := Lib.hid hg
  have HH := Lib.hid hh
  have HS := Lib.hid hs
  have HA := Lib.hid hl
  obtain ⟨p, c, rfl, _⟩ := hl
  clear hg hh hs
  have hfld := field_code
  go_enter Tryd.func14, Tryd.ntmps14
  go_wp2_with fail
  have hb0 : Below w.heap.size w (w.alloc (.cells #[.int .i64 k, .string bs] 30)) := (Below.refl _ _).alloc (Nat.le_refl _) _
  have hx0 : (w.alloc (.cells #[.int .i64 k, .string bs] 30)).heap[w.heap.size]? = some (.cells #[.int .i64 k, .string bs] 30 (0, 0)) := heap_alloc_new w _
  obtain ⟨z, hz⟩ : ∃ z, w.heap.size = z := ⟨_, rfl⟩
  have HZ := Lib.hid hz
  rw [hz] at hx0
  try rw [hz]
  clear hz
  generalize World.alloc _ _ = w0 at hb0 hx0 ⊢
  have HB0 := Lib.hid hb0
  have HX0 := Lib.hid hx0
  have HG0 := Lib.hid (HG.out.below hb0)
  have HA0 := Lib.hid (HA.out.below hb0)
  clear hb0 hx0
  refine (play_quiet w0 w0 hint _ l (Below.refl _ _) HG0.out HH.out HA0.out).mono ?_
  rintro e1 w1 ⟨b, rfl, hA1⟩
  have hac := (ok_acts (newDS (Pl.find hint.data.toList)) l rfl).1
  obtain ⟨d0, hd0⟩ : ∃ x, runA (newDS (Pl.find hint.data.toList)) (l.take 100) = x := ⟨_, rfl⟩
  rw [hd0] at hA1 hac
  have HA1 := Lib.hid hA1
  clear hA1 hd0
  go_wp2_with fail
  refine (do_at w0 w1 b d0 3 ⟨#[]⟩ HA1.out HG0.out (by decide)).mono ?_
  rintro e2 w2 ⟨⟨v2, rfl, ho2⟩, hA2, _, _⟩
  have hfc := finish_code d0 (by omega)
  rw [show (⟨#[]⟩ : ByteArray).data.toList = [] from rfl] at hA2 ho2 ⊢
  obtain ⟨d1, hd1⟩ : ∃ x, (doDS d0 3 []).1 = x := ⟨_, rfl⟩
  obtain ⟨r2, hr2⟩ : ∃ x, (doDS d0 3 []).2 = x := ⟨_, rfl⟩
  rw [hd1] at hA2 hfc
  rw [hr2] at ho2 hfc ⊢
  obtain ⟨cd, ⟨x2, y2, f2⟩, l2⟩ := r2
  obtain ⟨p2, c2, rfl⟩ := own_form ho2
  dsimp only at hfc
  obtain ⟨hc, hen, hac1, -, hvd⟩ := hfc
  have hvf := vd_ended d1 hen
  obtain ⟨V, hV⟩ : ∃ V, vd d1 = V := ⟨_, rfl⟩
  rw [hV] at hvf hvd
  obtain ⟨X, Y, F⟩ := V
  dsimp only at hvf
  subst hvf
  have ha1 : d1.acts ≤ 101 := by omega
  have HA2 := Lib.hid hA2
  -- what comes behind the end
  have H3 : Hid (∀ l, doDS d1 2 l = (tick d1, ⟨0, (X, Y, true), []⟩)) := Lib.hid fun l => by
    rw [doDS_ask d1 l (by omega), vd_tick, hV]
  have H4 : Hid (∀ l, doDS (tick d1) 1 l = (tick (tick d1), rp0 3)) := Lib.hid fun l => feed_ended _ l (by show d1.acts + 1 < 300; omega) hen
  have H5 : Hid (∀ l, doDS (tick (tick d1)) 2 l = (tick (tick (tick d1)), ⟨0, (X, Y, true), []⟩)) := Lib.hid fun l => by
    rw [doDS_ask (tick (tick d1)) l (by show d1.acts + 1 + 1 < 300; omega), vd_tick, vd_tick, vd_tick, hV]
  have H6 : Hid (doDS (tick (tick (tick d1))) 3 [] = (tick (tick (tick (tick d1))), rp0 3)) := Lib.hid (finish_ended _ (by show d1.acts + 1 + 1 + 1 < 300; omega) hen)
  clear hA2 hd1 hr2 ho2 hac hac1 hen hV
  simp only [rpV]
  rcases hc with rfl | rfl
  · have h2 := hvd rfl
    simp only [Prod.mk.injEq] at h2
    obtain ⟨rfl, rfl, rfl⟩ := h2
    clear hvd
    go_wp2_with fail
    have hF := alloc_reply HA2.out #[.int .i64 0, .int .i64 x2, .int .i64 y2, .bool true, .slice p2 l2.length c2]
    obtain ⟨Fz, hFz⟩ : ∃ Fz, w2.heap.size = Fz := ⟨_, rfl⟩
    rw [hFz] at hF
    try rw [hFz]
    clear hFz
    generalize World.alloc _ _ = w3 at hF ⊢
    have HA3 := Lib.hid hF.1
    have HF3 := Lib.hid hF.2.1
    have f0 : w3.cell? ⟨Fz, 0, none⟩ = some (.int .i64 0) := cell_of_row w3 Fz 0 _ _ _ HF3.out
    clear hF
    refine (bytes_at w0 w3 b d1 HA3.out).mono ?_
    rintro e3 w3' ⟨rfl, hw3⟩
    subst hw3
    go_wp2_with fail
    refine (do_at w0 w3 b d1 2 ⟨#[]⟩ HA3.out HG0.out (by decide)).mono ?_
    rintro e4 w4 ⟨⟨v4, rfl, ho4⟩, hA4, hSt4, _⟩
    rw [H3.out] at hA4 ho4 ⊢
    obtain ⟨p4, c4, rfl⟩ := own_form ho4
    have HA4 := Lib.hid hA4
    have HF4 := Lib.hid (hSt4 _ _ _ _ (by decide) (by decide) HF3.out)
    have HZ4 := Lib.hid (((HA4.out.below).block _ (Array.getElem?_eq_some_iff.1 HX0.out).1).trans HX0.out)
    have q1 : w4.cell? ⟨z, 1, none⟩ = some (.string bs) := cell_of_row w4 z 1 _ _ _ HZ4.out
    have hz4 : z < w4.heap.size := lt_of_cell q1
    clear hA4 ho4 hSt4 f0
    simp only [rpV]
    go_wp2_with fail
    have hX := alloc_reply HA4.out #[.int .i64 0, .int .i64 x2, .int .i64 y2, .bool true, .slice p4 ([] : List Int).length c4]
    obtain ⟨Xz, hXz⟩ : ∃ Xz, w4.heap.size = Xz := ⟨_, rfl⟩
    rw [hXz] at hX
    try rw [hXz]
    clear hXz q1 hz4
    generalize World.alloc _ _ = w5 at hX ⊢
    have HA5 := Lib.hid hX.1
    have HX5 := Lib.hid hX.2.1
    have HF5 := Lib.hid (hX.2.2 _ _ _ _ (by decide) (by decide) HF4.out)
    clear hX
    refine (do_at w0 w5 b (tick d1) 1 bs HA5.out HG0.out HS.out).mono ?_
    rintro e6 w6 ⟨⟨v6, rfl, ho6⟩, hA6, hSt6, _⟩
    rw [H4.out] at hA6 ho6 ⊢
    obtain ⟨p6, c6, rfl⟩ := own_form ho6
    have HA6 := Lib.hid hA6
    have HF6 := Lib.hid (hSt6 _ _ _ _ (by decide) (by decide) HF5.out)
    have HX6 := Lib.hid (hSt6 _ _ _ _ (by decide) (by decide) HX5.out)
    clear hA6 ho6 hSt6
    simp only [rpV, rp0]
    go_wp2_with fail
    have hR := alloc_reply HA6.out #[.int .i64 3, .int .i64 0, .int .i64 0, .bool false, .slice p6 ([] : List Int).length c6]
    obtain ⟨Rz, hRz⟩ : ∃ Rz, w6.heap.size = Rz := ⟨_, rfl⟩
    rw [hRz] at hR
    try rw [hRz]
    clear hRz
    generalize World.alloc _ _ = w7 at hR ⊢
    have HA7 := Lib.hid hR.1
    have HR7 := Lib.hid hR.2.1
    have HF7 := Lib.hid (hR.2.2 _ _ _ _ (by decide) (by decide) HF6.out)
    have HX7 := Lib.hid (hR.2.2 _ _ _ _ (by decide) (by decide) HX6.out)
    clear hR
    refine (do_at w0 w7 b (tick (tick d1)) 2 ⟨#[]⟩ HA7.out HG0.out (by decide)).mono ?_
    rintro e8 w8 ⟨⟨v8, rfl, ho8⟩, hA8, hSt8, _⟩
    rw [H5.out] at hA8 ho8 ⊢
    obtain ⟨p8, c8, rfl⟩ := own_form ho8
    have HA8 := Lib.hid hA8
    have HF8 := Lib.hid (hSt8 _ _ _ _ (by decide) (by decide) HF7.out)
    have HX8 := Lib.hid (hSt8 _ _ _ _ (by decide) (by decide) HX7.out)
    have HR8 := Lib.hid (hSt8 _ _ _ _ (by decide) (by decide) HR7.out)
    clear hA8 ho8 hSt8
    have r0 : w8.cell? ⟨Rz, 0, none⟩ = some (.int .i64 3) := cell_of_row w8 Rz 0 _ _ _ HR8.out
    have hr8 : Rz < w8.heap.size := lt_of_cell r0
    simp only [rpV]
    go_wp2_with fail
    have hY := alloc_reply HA8.out #[.int .i64 0, .int .i64 x2, .int .i64 y2, .bool true, .slice p8 ([] : List Int).length c8]
    obtain ⟨Yz, hYz⟩ : ∃ Yz, w8.heap.size = Yz := ⟨_, rfl⟩
    rw [hYz] at hY
    try rw [hYz]
    clear hYz r0 hr8
    generalize World.alloc _ _ = w9 at hY ⊢
    have HA9 := Lib.hid hY.1
    have HY9 := Lib.hid hY.2.1
    have HF9 := Lib.hid (hY.2.2 _ _ _ _ (by decide) (by decide) HF8.out)
    have HX9 := Lib.hid (hY.2.2 _ _ _ _ (by decide) (by decide) HX8.out)
    clear hY
    have hby := bytes_at w0 w9 b (tick (tick (tick d1))) HA9.out
    rw [show (tick (tick (tick d1))).bs = d1.bs from rfl] at hby
    have HBy := Lib.hid hby
    clear hby
    refine HBy.out.mono ?_
    rintro e9 w9' ⟨rfl, hw9⟩
    subst hw9
    have x0 : w9.cell? ⟨Xz, 0, none⟩ = some (.int .i64 0) := cell_of_row w9 Xz 0 _ _ _ HX9.out
    have x1 : w9.cell? ⟨Xz, 1, none⟩ = some (.int .i64 x2) := cell_of_row w9 Xz 1 _ _ _ HX9.out
    have x2' : w9.cell? ⟨Xz, 2, none⟩ = some (.int .i64 y2) := cell_of_row w9 Xz 2 _ _ _ HX9.out
    have x3 : w9.cell? ⟨Xz, 3, none⟩ = some (.bool true) := cell_of_row w9 Xz 3 _ _ _ HX9.out
    have x4 : w9.cell? ⟨Xz, 4, none⟩ = some (.slice p4 ([] : List Int).length c4) := cell_of_row w9 Xz 4 _ _ _ HX9.out
    have y0 : w9.cell? ⟨Yz, 0, none⟩ = some (.int .i64 0) := cell_of_row w9 Yz 0 _ _ _ HY9.out
    have y1 : w9.cell? ⟨Yz, 1, none⟩ = some (.int .i64 x2) := cell_of_row w9 Yz 1 _ _ _ HY9.out
    have y2' : w9.cell? ⟨Yz, 2, none⟩ = some (.int .i64 y2) := cell_of_row w9 Yz 2 _ _ _ HY9.out
    have y3 : w9.cell? ⟨Yz, 3, none⟩ = some (.bool true) := cell_of_row w9 Yz 3 _ _ _ HY9.out
    have y4 : w9.cell? ⟨Yz, 4, none⟩ = some (.slice p8 ([] : List Int).length c8) := cell_of_row w9 Yz 4 _ _ _ HY9.out
    go_wp2_with fail
    refine (topSameReply_any w9 0 x2 y2 true (.slice p4 ([] : List Int).length c4) (.slice p8 ([] : List Int).length c8) [] (by decide) ⟨p4, c4, rfl, .inl rfl⟩ ⟨p8, c8, rfl, .inl rfl⟩).mono ?_
    rintro e10 w10 ⟨rfl, hb10⟩
    have HA10 := Lib.hid (HA9.out.next hb10)
    have HX10 := Lib.hid ((hb10.block _ (Array.getElem?_eq_some_iff.1 HX9.out).1).trans HX9.out)
    have HF10 := Lib.hid ((hb10.block _ (Array.getElem?_eq_some_iff.1 HF9.out).1).trans HF9.out)
    clear hb10 x0 x1 x2' x3 x4 y0 y1 y2' y3 y4
    have x1 : w10.cell? ⟨Xz, 1, none⟩ = some (.int .i64 x2) := cell_of_row w10 Xz 1 _ _ _ HX10.out
    have x2' : w10.cell? ⟨Xz, 2, none⟩ = some (.int .i64 y2) := cell_of_row w10 Xz 2 _ _ _ HX10.out
    have x3 : w10.cell? ⟨Xz, 3, none⟩ = some (.bool true) := cell_of_row w10 Xz 3 _ _ _ HX10.out
    have f0 : w10.cell? ⟨Fz, 0, none⟩ = some (.int .i64 0) := cell_of_row w10 Fz 0 _ _ _ HF10.out
    have f1 : w10.cell? ⟨Fz, 1, none⟩ = some (.int .i64 x2) := cell_of_row w10 Fz 1 _ _ _ HF10.out
    have f2' : w10.cell? ⟨Fz, 2, none⟩ = some (.int .i64 y2) := cell_of_row w10 Fz 2 _ _ _ HF10.out
    have f3 : w10.cell? ⟨Fz, 3, none⟩ = some (.bool true) := cell_of_row w10 Fz 3 _ _ _ HF10.out
    go_wp2_with fail
    refine (do_at w0 w10 b (tick (tick (tick d1))) 3 ⟨#[]⟩ HA10.out HG0.out (by decide)).mono ?_
    rintro e11 w11 ⟨⟨v11, rfl, ho11⟩, hA11, _, _⟩
    rw [show (⟨#[]⟩ : ByteArray).data.toList = [] from rfl, H6.out] at hA11 ho11 ⊢
    obtain ⟨p11, c11, rfl⟩ := own_form ho11
    have HB11 := Lib.hid (HB0.out.trans (hA11.below.mono HB0.out.size))
    clear hA11 ho11 x1 x2' x3 f0 f1 f2' f3
    simp only [rpV, rp0]
    go_wp2_with fail
    go_ret
    exact ⟨rfl, HB11.out⟩
  · clear hvd
    go_wp2_with fail
    have hF := alloc_reply HA2.out #[.int .i64 3, .int .i64 x2, .int .i64 y2, .bool f2, .slice p2 l2.length c2]
    obtain ⟨Fz, hFz⟩ : ∃ Fz, w2.heap.size = Fz := ⟨_, rfl⟩
    rw [hFz] at hF
    try rw [hFz]
    clear hFz
    generalize World.alloc _ _ = w3 at hF ⊢
    have HA3 := Lib.hid hF.1
    have HF3 := Lib.hid hF.2.1
    have f0 : w3.cell? ⟨Fz, 0, none⟩ = some (.int .i64 3) := cell_of_row w3 Fz 0 _ _ _ HF3.out
    clear hF
    refine (bytes_at w0 w3 b d1 HA3.out).mono ?_
    rintro e3 w3' ⟨rfl, hw3⟩
    subst hw3
    go_wp2_with fail
    refine (do_at w0 w3 b d1 2 ⟨#[]⟩ HA3.out HG0.out (by decide)).mono ?_
    rintro e4 w4 ⟨⟨v4, rfl, ho4⟩, hA4, hSt4, _⟩
    rw [H3.out] at hA4 ho4 ⊢
    obtain ⟨p4, c4, rfl⟩ := own_form ho4
    have HA4 := Lib.hid hA4
    have HF4 := Lib.hid (hSt4 _ _ _ _ (by decide) (by decide) HF3.out)
    have HZ4 := Lib.hid (((HA4.out.below).block _ (Array.getElem?_eq_some_iff.1 HX0.out).1).trans HX0.out)
    have q1 : w4.cell? ⟨z, 1, none⟩ = some (.string bs) := cell_of_row w4 z 1 _ _ _ HZ4.out
    have hz4 : z < w4.heap.size := lt_of_cell q1
    clear hA4 ho4 hSt4 f0
    simp only [rpV]
    go_wp2_with fail
    have hX := alloc_reply HA4.out #[.int .i64 0, .int .i64 X, .int .i64 Y, .bool true, .slice p4 ([] : List Int).length c4]
    obtain ⟨Xz, hXz⟩ : ∃ Xz, w4.heap.size = Xz := ⟨_, rfl⟩
    rw [hXz] at hX
    try rw [hXz]
    clear hXz q1 hz4
    generalize World.alloc _ _ = w5 at hX ⊢
    have HA5 := Lib.hid hX.1
    have HX5 := Lib.hid hX.2.1
    have HF5 := Lib.hid (hX.2.2 _ _ _ _ (by decide) (by decide) HF4.out)
    clear hX
    refine (do_at w0 w5 b (tick d1) 1 bs HA5.out HG0.out HS.out).mono ?_
    rintro e6 w6 ⟨⟨v6, rfl, ho6⟩, hA6, hSt6, _⟩
    rw [H4.out] at hA6 ho6 ⊢
    obtain ⟨p6, c6, rfl⟩ := own_form ho6
    have HA6 := Lib.hid hA6
    have HF6 := Lib.hid (hSt6 _ _ _ _ (by decide) (by decide) HF5.out)
    have HX6 := Lib.hid (hSt6 _ _ _ _ (by decide) (by decide) HX5.out)
    clear hA6 ho6 hSt6
    simp only [rpV, rp0]
    go_wp2_with fail
    have hR := alloc_reply HA6.out #[.int .i64 3, .int .i64 0, .int .i64 0, .bool false, .slice p6 ([] : List Int).length c6]
    obtain ⟨Rz, hRz⟩ : ∃ Rz, w6.heap.size = Rz := ⟨_, rfl⟩
    rw [hRz] at hR
    try rw [hRz]
    clear hRz
    generalize World.alloc _ _ = w7 at hR ⊢
    have HA7 := Lib.hid hR.1
    have HR7 := Lib.hid hR.2.1
    have HF7 := Lib.hid (hR.2.2 _ _ _ _ (by decide) (by decide) HF6.out)
    have HX7 := Lib.hid (hR.2.2 _ _ _ _ (by decide) (by decide) HX6.out)
    clear hR
    refine (do_at w0 w7 b (tick (tick d1)) 2 ⟨#[]⟩ HA7.out HG0.out (by decide)).mono ?_
    rintro e8 w8 ⟨⟨v8, rfl, ho8⟩, hA8, hSt8, _⟩
    rw [H5.out] at hA8 ho8 ⊢
    obtain ⟨p8, c8, rfl⟩ := own_form ho8
    have HA8 := Lib.hid hA8
    have HF8 := Lib.hid (hSt8 _ _ _ _ (by decide) (by decide) HF7.out)
    have HX8 := Lib.hid (hSt8 _ _ _ _ (by decide) (by decide) HX7.out)
    have HR8 := Lib.hid (hSt8 _ _ _ _ (by decide) (by decide) HR7.out)
    clear hA8 ho8 hSt8
    have r0 : w8.cell? ⟨Rz, 0, none⟩ = some (.int .i64 3) := cell_of_row w8 Rz 0 _ _ _ HR8.out
    have hr8 : Rz < w8.heap.size := lt_of_cell r0
    simp only [rpV]
    go_wp2_with fail
    have hY := alloc_reply HA8.out #[.int .i64 0, .int .i64 X, .int .i64 Y, .bool true, .slice p8 ([] : List Int).length c8]
    obtain ⟨Yz, hYz⟩ : ∃ Yz, w8.heap.size = Yz := ⟨_, rfl⟩
    rw [hYz] at hY
    try rw [hYz]
    clear hYz r0 hr8
    generalize World.alloc _ _ = w9 at hY ⊢
    have HA9 := Lib.hid hY.1
    have HY9 := Lib.hid hY.2.1
    have HF9 := Lib.hid (hY.2.2 _ _ _ _ (by decide) (by decide) HF8.out)
    have HX9 := Lib.hid (hY.2.2 _ _ _ _ (by decide) (by decide) HX8.out)
    clear hY
    have hby := bytes_at w0 w9 b (tick (tick (tick d1))) HA9.out
    rw [show (tick (tick (tick d1))).bs = d1.bs from rfl] at hby
    have HBy := Lib.hid hby
    clear hby
    refine HBy.out.mono ?_
    rintro e9 w9' ⟨rfl, hw9⟩
    subst hw9
    have x0 : w9.cell? ⟨Xz, 0, none⟩ = some (.int .i64 0) := cell_of_row w9 Xz 0 _ _ _ HX9.out
    have x1 : w9.cell? ⟨Xz, 1, none⟩ = some (.int .i64 X) := cell_of_row w9 Xz 1 _ _ _ HX9.out
    have x2' : w9.cell? ⟨Xz, 2, none⟩ = some (.int .i64 Y) := cell_of_row w9 Xz 2 _ _ _ HX9.out
    have x3 : w9.cell? ⟨Xz, 3, none⟩ = some (.bool true) := cell_of_row w9 Xz 3 _ _ _ HX9.out
    have x4 : w9.cell? ⟨Xz, 4, none⟩ = some (.slice p4 ([] : List Int).length c4) := cell_of_row w9 Xz 4 _ _ _ HX9.out
    have y0 : w9.cell? ⟨Yz, 0, none⟩ = some (.int .i64 0) := cell_of_row w9 Yz 0 _ _ _ HY9.out
    have y1 : w9.cell? ⟨Yz, 1, none⟩ = some (.int .i64 X) := cell_of_row w9 Yz 1 _ _ _ HY9.out
    have y2' : w9.cell? ⟨Yz, 2, none⟩ = some (.int .i64 Y) := cell_of_row w9 Yz 2 _ _ _ HY9.out
    have y3 : w9.cell? ⟨Yz, 3, none⟩ = some (.bool true) := cell_of_row w9 Yz 3 _ _ _ HY9.out
    have y4 : w9.cell? ⟨Yz, 4, none⟩ = some (.slice p8 ([] : List Int).length c8) := cell_of_row w9 Yz 4 _ _ _ HY9.out
    go_wp2_with fail
    refine (topSameReply_any w9 0 X Y true (.slice p4 ([] : List Int).length c4) (.slice p8 ([] : List Int).length c8) [] (by decide) ⟨p4, c4, rfl, .inl rfl⟩ ⟨p8, c8, rfl, .inl rfl⟩).mono ?_
    rintro e10 w10 ⟨rfl, hb10⟩
    have HA10 := Lib.hid (HA9.out.next hb10)
    have HX10 := Lib.hid ((hb10.block _ (Array.getElem?_eq_some_iff.1 HX9.out).1).trans HX9.out)
    have HF10 := Lib.hid ((hb10.block _ (Array.getElem?_eq_some_iff.1 HF9.out).1).trans HF9.out)
    clear hb10 x0 x1 x2' x3 x4 y0 y1 y2' y3 y4
    have x1 : w10.cell? ⟨Xz, 1, none⟩ = some (.int .i64 X) := cell_of_row w10 Xz 1 _ _ _ HX10.out
    have x2' : w10.cell? ⟨Xz, 2, none⟩ = some (.int .i64 Y) := cell_of_row w10 Xz 2 _ _ _ HX10.out
    have x3 : w10.cell? ⟨Xz, 3, none⟩ = some (.bool true) := cell_of_row w10 Xz 3 _ _ _ HX10.out
    have f0 : w10.cell? ⟨Fz, 0, none⟩ = some (.int .i64 3) := cell_of_row w10 Fz 0 _ _ _ HF10.out
    have f1 : w10.cell? ⟨Fz, 1, none⟩ = some (.int .i64 x2) := cell_of_row w10 Fz 1 _ _ _ HF10.out
    have f2' : w10.cell? ⟨Fz, 2, none⟩ = some (.int .i64 y2) := cell_of_row w10 Fz 2 _ _ _ HF10.out
    have f3 : w10.cell? ⟨Fz, 3, none⟩ = some (.bool f2) := cell_of_row w10 Fz 3 _ _ _ HF10.out
    go_wp2_with fail
    refine (do_at w0 w10 b (tick (tick (tick d1))) 3 ⟨#[]⟩ HA10.out HG0.out (by decide)).mono ?_
    rintro e11 w11 ⟨⟨v11, rfl, ho11⟩, hA11, _, _⟩
    rw [show (⟨#[]⟩ : ByteArray).data.toList = [] from rfl, H6.out] at hA11 ho11 ⊢
    obtain ⟨p11, c11, rfl⟩ := own_form ho11
    have HB11 := Lib.hid (HB0.out.trans (hA11.below.mono HB0.out.size))
    clear hA11 ho11 x1 x2' x3 f0 f1 f2' f3
    simp only [rpV, rp0]
    go_wp2_with fail
    go_ret
    exact ⟨rfl, HB11.out⟩
end Go.Proofs.YtefohnbmifblkaaDoor
