/-
  The walks of TopRefused and TopEnds.
-/
import Derived.Test.YtefohnbmifblkabDoorTpH
import Derived.Test.YtefohnbmifblkabDoorTpR
namespace Go.Proofs.YtefohnbmifblkabDoor
open Go.RowKit

theorem Det.mono {base base' : Nat} {w : World} {b : Nat} {o : Option Nat} {d : DS} (h : Det base w b o d) (hb : base' ≤ base) : Det base' w b o d := by
  obtain ⟨v, hv, hown, ho⟩ := h.mem
  exact ⟨Nat.le_trans hb h.low, v, hv, World.ownsRow.mono hown hb, ho⟩
/-- a detector that was made later than another one shares nothing with it. -/
theorem At2.of {w w2 w3 : World} {b b' : Nat} {d d' : DS} (h : At w b d w2) (h' : At w2 b' d' w3) : At2 w b d b' d' w3 := by
  obtain ⟨⟨o, hd⟩, ho, hb⟩ := h
  obtain ⟨⟨o', hd'⟩, ho', hb'⟩ := h'
  have hl := hd.lt
  have hl' := hd'.low
  refine ⟨⟨o, o', hd.below hb' (Nat.le_refl _), hd'.mono hb.size, by omega, ?_⟩, ho, ho', hb.trans (hb'.mono hb.size)⟩
  intro n hn e
  have h1 := (hd.own_lt n hn).2
  have h2 := (hd'.own_lt n e).1
  omega

set_option maxRecDepth 100000 in
set_option maxHeartbeats 4000000 in
theorem topRefused_walk (hint : ByteArray) (v : Value) (l : List Ac) (k : Int) (bs : ByteArray) (w : World) (hh : hint.size ≤ maxLen) (hs : bs.size ≤ maxLen) (hl : Acts w v l) (hg : Gl w) :
    Calls Tryd.prog 3 #[.string hint, v, .agg #[.int .i64 k, .string bs]] w fun e w' => e = .returned (.bool true) ∧ Below w.heap.size w w' := by
  have HG := Lib.hid hg
  have HH := Lib.hid hh
  have HS := Lib.hid hs
  have HA := Lib.hid hl
  obtain ⟨p, c, rfl, _⟩ := hl
  clear hg hh hs
  go_enter Tryd.func3, Tryd.ntmps3
  go_wp2_with fail
  have hb0 : Below w.heap.size w (w.alloc (.cells #[.int .i64 k, .string bs] 24)) := (Below.refl _ _).alloc (Nat.le_refl _) _
  have hx0 : (w.alloc (.cells #[.int .i64 k, .string bs] 24)).heap[w.heap.size]? = some (.cells #[.int .i64 k, .string bs] 24 (0, 0)) := heap_alloc_new w _
  obtain ⟨z, hz⟩ : ∃ z, w.heap.size = z := ⟨_, rfl⟩
  have HZ := Lib.hid hz
  rw [hz] at hx0
  try rw [hz]
  clear hz
  generalize World.alloc _ _ = w0 at hb0 hx0 ⊢
  have HB0 := Lib.hid hb0
  have HX0 := Lib.hid hx0
  have HG0 := Lib.hid (HG.out.below hb0)
  have HA0 := Lib.hid (HA.out.below hb0)
  clear hb0 hx0
  refine (play_quiet w0 w0 hint _ l (Below.refl _ _) HG0.out HH.out HA0.out).mono ?_
  rintro e1 w1 ⟨b, rfl, hA1⟩
  obtain ⟨d0, hd0⟩ : ∃ x, runA (newDS (Pl.find hint.data.toList)) (l.take 100) = x := ⟨_, rfl⟩
  rw [hd0] at hA1
  have HD0 := Lib.hid hd0
  have HA1 := Lib.hid hA1
  clear hA1 hd0
  go_wp2_with fail
  refine (play_quiet w1 w1 hint _ l (Below.refl _ _) (HG0.out.below HA1.out.below) HH.out (HA0.out.below HA1.out.below)).mono ?_
  rintro e2 w2 ⟨b', rfl, hA2⟩
  rw [show runA (newDS (Pl.find hint.data.toList)) (l.take 100) = d0 from HD0.out] at hA2
  have HA2 := Lib.hid (At2.of HA1.out hA2)
  have hB2 := HA2.out.below
  have q0 : w2.cell? ⟨z, 0, none⟩ = some (.int .i64 k) := cell_of_row w2 z 0 _ _ _ ((hB2.block _ (Array.getElem?_eq_some_iff.1 HX0.out).1).trans HX0.out)
  have q1 : w2.cell? ⟨z, 1, none⟩ = some (.string bs) := cell_of_row w2 z 1 _ _ _ ((hB2.block _ (Array.getElem?_eq_some_iff.1 HX0.out).1).trans HX0.out)
  clear hA2 hB2
  go_wp2_with fail
  refine (do_at2 w0 w2 b d0 b' d0 k bs HA2.out HG0.out HS.out).mono ?_
  rintro e3 w3 ⟨⟨v3, rfl, ho3⟩, hA3, hSt3, hz3⟩
  obtain ⟨d1, hd1⟩ : ∃ x, (doDS d0 k bs.data.toList).1 = x := ⟨_, rfl⟩
  obtain ⟨r3, hr3⟩ : ∃ x, (doDS d0 k bs.data.toList).2 = x := ⟨_, rfl⟩
  rw [hd1] at hA3
  rw [hr3] at ho3 ⊢
  obtain ⟨cd, ⟨x3, y3, f3⟩, l3⟩ := r3
  have HD1 := Lib.hid hd1
  have HR3 := Lib.hid hr3
  have HA3 := Lib.hid hA3
  obtain ⟨p3, c3, rfl⟩ := own_form ho3
  have hcr := code_range d0 k bs.data.toList
  rw [hr3] at hcr
  dsimp only at hcr
  clear hA3 hd1 hr3 hSt3 hz3 ho3
  simp only [rpV]
  by_cases hc : cd = 0
  · subst hc
    go_wp2_with fail
    all_goals go_ret
    all_goals exact ⟨rfl, (HB0.out.trans (HA3.out.below.mono HB0.out.size)).alloc (HB0.out.trans (HA3.out.below.mono HB0.out.size)).size _⟩
  · have hcb : (cd == 0) = false := beq_eq_false_iff_ne.2 hc
    have hrf := refused d0 k bs.data.toList (by rw [HR3.out]; exact hc)
    rw [HR3.out, HD1.out] at hrf
    obtain ⟨h1, h2, h3⟩ := hrf
    simp only [Prod.mk.injEq] at h1
    obtain ⟨rfl, rfl, rfl⟩ := h1
    dsimp only at h2
    subst h2
    have HE := Lib.hid h3
    have hk0 := (ok_acts (newDS (Pl.find hint.data.toList)) l rfl).1
    rw [show runA (newDS (Pl.find hint.data.toList)) (l.take 100) = d0 from HD0.out] at hk0
    have hk1 : d1.acts ≤ 101 := by
      have h := act_acts d0 k bs.data.toList
      rw [HD1.out] at h
      rw [h]
      split <;> omega
    clear h3 q0 q1
    go_wp2_with fail
    have hA4 := HA3.out.alloc (.cells #[.int .i64 cd, .int .i64 0, .int .i64 0, .bool false, .slice p3 ([] : List Int).length c3] 34)
    generalize World.alloc _ _ = w4 at hA4 ⊢
    have HA4 := Lib.hid hA4
    clear hA4
    have hby := bytes_at w0 w4 b d1 HA4.out.fst
    rw [HE.out.bs] at hby
    have HBy := Lib.hid hby
    have HBz := Lib.hid (bytes_at w0 w4 b' d0 HA4.out.snd)
    clear hby
    obtain ⟨V, hV⟩ : ∃ V, vd d0 = V := ⟨_, rfl⟩
    obtain ⟨X, Y, F⟩ := V
    have H3 : Hid (∀ l, doDS d1 2 l = (tick d1, ⟨0, (X, Y, F), []⟩)) := Lib.hid fun l => by
      rw [doDS_ask d1 l (by omega), vd_tick, HE.out.vd, hV]
    have H4 : Hid (∀ l, doDS d0 2 l = (tick d0, ⟨0, (X, Y, F), []⟩)) := Lib.hid fun l => by
      rw [doDS_ask d0 l (by omega), vd_tick, hV]
    clear hV hk0 hk1
    refine HBy.out.mono ?_
    rintro e5 w5 ⟨rfl, hw5⟩
    subst hw5
    go_wp2_with fail
    refine HBz.out.mono ?_
    rintro e5 w5 ⟨rfl, hw5⟩
    subst hw5
    go_wp2_with fail
    refine (do_at2 w0 w4 b d1 b' d0 2 ⟨#[]⟩ HA4.out HG0.out (by decide)).mono ?_
    rintro e6 w6 ⟨⟨v6, rfl, ho6⟩, hA6, _, _⟩
    rw [H3.out] at hA6 ho6 ⊢
    obtain ⟨p6, c6, rfl⟩ := own_form ho6
    have HA6 := Lib.hid hA6.swap
    clear hA6 ho6
    simp only [rpV]
    go_wp2_with fail
    refine (do_at2 w0 w6 b' d0 b (tick d1) 2 ⟨#[]⟩ HA6.out HG0.out (by decide)).mono ?_
    rintro e7 w7 ⟨⟨v7, rfl, ho7⟩, hA7, _, _⟩
    rw [H4.out] at hA7 ho7 ⊢
    obtain ⟨p7, c7, rfl⟩ := own_form ho7
    have HB7 := Lib.hid (HB0.out.trans (hA7.below.mono HB0.out.size))
    clear hA7 ho7
    simp only [rpV]
    go_wp2_with fail
    refine (topSameReply_any w7 0 X Y F (.slice p6 ([] : List Int).length c6) (.slice p7 ([] : List Int).length c7) [] (by decide) ⟨p6, c6, rfl, .inl rfl⟩ ⟨p7, c7, rfl, .inl rfl⟩).mono ?_
    rintro e8 w8 ⟨rfl, hb8⟩
    have HB8 := Lib.hid (bthen HB7.out hb8)
    clear hb8
    go_wp2_with fail
    go_ret
    exact ⟨rfl, HB8.out⟩
end Go.Proofs.YtefohnbmifblkabDoor
