/-
  The walk of TopParts.
-/
import Derived.Test.YtefohnbmifblkaaDoorTpE
namespace Go.Proofs.YtefohnbmifblkaaDoor
open Go.RowKit

theorem extract_take (bs : ByteArray) (k : Nat) : (bs.extract 0 k).data.toList = bs.data.toList.take k := by
  rw [ByteArray.data_extract, Array.toList_extract, List.extract_eq_take_drop]
  simp
theorem extract_one (bs : ByteArray) (k : Nat) (c : UInt8) (h : bs.data.toList[k]? = some c) : (bs.extract k (k + 1)).data.toList = [c] := by
  rw [ByteArray.data_extract, Array.toList_extract, List.extract_eq_take_drop]
  obtain ⟨hk, rfl⟩ := List.getElem?_eq_some_iff.1 h
  rw [List.drop_eq_getElem_cons hk, show k + 1 - k = 1 by omega]
  rfl
theorem fedAll_snoc : ∀ (l : List UInt8) (d : DS) (c : UInt8), fedAll d (l ++ [c]) = fed (fedAll d l) [c]
  | [], _, _ => rfl
  | x :: l, d, c => fedAll_snoc l (fed d [x]) c
theorem fedAll_succ (d : DS) (l : List UInt8) (k : Nat) (c : UInt8) (h : l[k]? = some c) : fedAll d (l.take (k + 1)) = fed (fedAll d (l.take k)) [c] := by
  obtain ⟨hk, rfl⟩ := List.getElem?_eq_some_iff.1 h
  rw [← fedAll_snoc, List.take_append_getElem hk]
theorem fedAll_ended : ∀ (l : List UInt8) (d : DS), (fedAll d l).ended = d.ended
  | [], _ => rfl
  | c :: l, d => fedAll_ended l (fed d [c])
theorem fedAll_bs : ∀ (l : List UInt8) (d : DS), (fedAll d l).bs = d.bs ++ l
  | [], d => (List.append_nil _).symm
  | c :: l, d => by
    show (fedAll (fed d [c]) l).bs = _
    rw [fedAll_bs l]
    show (d.bs ++ [c]) ++ l = _
    rw [List.append_assoc]
    rfl

theorem stay_of_drew {w w' : World} (h : Drew w w') : Stay w w' := fun _ _ _ _ _ _ hg => by rw [h.heap]; exact hg
theorem Drew.at2_ {w wi w2 : World} {b : Nat} {d : DS} (k : Drew wi w2) (h : At w b d wi) : At w b d w2 := h.next k.below

/-- byte by byte, by acts. -/
theorem fedAll_step (h : Int) (l : List UInt8) (k : Nat) (c : UInt8) (hl : l.length ≤ 200) (hc : l[k]? = some c) : (doDS (fedAll (newDS h) (l.take k)) 1 [c]).1 = fedAll (newDS h) (l.take (k + 1)) := by
  have hk := (List.getElem?_eq_some_iff.1 hc).1
  rw [fedAll_succ _ l k c hc, doDS_feed]
  · rw [fedAll_acts]
    simp [newDS]
    omega
  · rw [fedAll_ended]
    rfl
  · rw [fedAll_bs]
    simp [newDS]
    omega
theorem parts_bytes (h : Int) (l : List UInt8) (hl : l.length ≤ 200) : (doDS (fedAll (newDS h) l) 3 []).2 = (doDS (doDS (newDS h) 1 l).1 3 []).2 := by
  rw [doDS_feed (newDS h) l (by simp [newDS]) rfl (by simp [newDS]; omega)]
  refine finish_same (fedAll_same l (newDS h)) ?_ ?_ ?_
  · rw [fedAll_acts]
    simp [newDS]
    omega
  · simp [fed, newDS]
  · rw [fedAll_ended]
    rfl
theorem parts_two (h : Int) (l : List UInt8) (m : Nat) (hl : l.length ≤ 4000) (hm : m ≤ l.length) :
    (doDS (doDS (doDS (doDS (doDS (newDS h) 1 (l.take m)).1 2 []).1 1 []).1 1 (l.drop m)).1 3 []).2 = (doDS (doDS (newDS h) 1 l).1 3 []).2 := by
  rw [doDS_feed (newDS h) l (by simp [newDS]) rfl (by simp [newDS]; omega)]
  rw [doDS_feed (newDS h) (l.take m) (by simp [newDS]) rfl (by simp [newDS]; omega)]
  dsimp only
  rw [doDS_ask _ _ (by simp [fed, newDS])]
  dsimp only
  rw [doDS_feed (tick (fed (newDS h) (l.take m))) [] (by simp [fed, tick, newDS]) rfl (by simp [fed, tick, newDS]; omega)]
  dsimp only
  rw [doDS_feed (fed (tick (fed (newDS h) (l.take m))) []) (l.drop m) (by simp [fed, tick, newDS]) rfl (by simp [fed, tick, newDS]; omega)]
  dsimp only
  refine finish_same ?_ (by simp [fed, tick, newDS]) (by simp [fed, newDS]) rfl
  have h1 : EqA (fed (tick (fed (newDS h) (l.take m))) []) (fed (newDS h) (l.take m)) := (fed_nil _).trans (eqA_tick _)
  have h2 := (h1.fed (l.drop m)).trans (fed_app (newDS h) (l.take m) (l.drop m))
  rw [List.take_append_drop] at h2
  exact h2

set_option maxRecDepth 100000 in
set_option maxHeartbeats 4000000 in
theorem topParts_walk (hint s : ByteArray) (k : Int) (w : World) (hh : hint.size ≤ maxLen) (hs : s.size ≤ maxLen) (hg : Gl w) :
    Calls Tryd.prog 7 #[.string hint, .string s, .int .i64 k] w fun e w' => e = .returned (.bool true) ∧ Below w.heap.size w w' := by
  have HG := Lib.hid hg
  have HH := Lib.hid hh
  have HS := Lib.hid hs
  clear hg hh
  unfold maxLen at hs
  go_enter Tryd.func7, Tryd.ntmps7
  go_wp2_with fail
  refine (alive_any _ HG.out).mono ?_
  rintro e1 w1 ⟨rfl, hb1⟩
  have HB1 := Lib.hid hb1
  clear hb1
  by_cases hl : 4000 < s.size
  · have hl2 : (4000 : Int) < (s.size : Int) := by omega
    go_wp2_with fail
    go_ret
    exact ⟨rfl, HB1.out⟩
  have hl2 : (s.size : Int) ≤ 4000 := by omega
  obtain ⟨q, hq⟩ : ∃ q, k.tmod ((s.size : Int) + 1) = q := ⟨_, rfl⟩
  have hq0 : -((s.size : Int) + 1) < q := by
    rw [← hq]
    exact Int.lt_tmod_of_pos k (by omega)
  have hq1 : q < (s.size : Int) + 1 := by
    rw [← hq]
    exact Int.tmod_lt_of_pos k (by omega)
  obtain ⟨m, hm⟩ : ∃ m : Nat, (q + (s.size : Int) + 1) % ((s.size : Int) + 1) = (m : Int) := ⟨((q + (s.size : Int) + 1) % ((s.size : Int) + 1)).toNat, by
    have := Int.emod_nonneg (q + (s.size : Int) + 1) (show ((s.size : Int) + 1) ≠ 0 by omega)
    omega⟩
  have hm1 : (m : Int) ≤ (s.size : Int) := by
    have := Int.emod_lt_of_pos (q + (s.size : Int) + 1) (show 0 < ((s.size : Int) + 1) by omega)
    omega
  go_wp2_with fail
  simp only [hm]
  clear hq hq0 hq1 hm
  have hs0 : s.data.toList.length = s.size := by simp
  obtain ⟨d0, hd0⟩ : ∃ x, newDS (Pl.find hint.data.toList) = x := ⟨_, rfl⟩
  have HD0 := Lib.hid hd0
  clear hd0
  refine (new_at hint w w1 HB1.out HH.out).mono ?_
  rintro e2 w2 ⟨⟨a, rfl, _, hA2⟩, hb2⟩
  rw [show newDS (Pl.find hint.data.toList) = d0 from HD0.out] at hA2
  have HA2 := Lib.hid hA2
  clear hA2 hb2
  go_wp2_with fail
  refine (new_at2 hint w w2 a d0 HA2.out HH.out).mono ?_
  rintro e3 w3 ⟨⟨b, rfl, _, hA3⟩, hb3⟩
  rw [show newDS (Pl.find hint.data.toList) = d0 from HD0.out] at hA3
  have HA3 := Lib.hid hA3
  clear hA3 hb3
  go_wp2_with fail
  refine (do_at2 w w3 a d0 b d0 1 s HA3.out HG.out HS.out).mono ?_
  rintro e4 w4 ⟨⟨v4, rfl, ho4⟩, hA4, _, _⟩
  obtain ⟨dA, hdA⟩ : ∃ x, (doDS d0 1 s.data.toList).1 = x := ⟨_, rfl⟩
  rw [hdA] at hA4
  have HDA := Lib.hid hdA
  have HA4 := Lib.hid hA4.swap
  obtain ⟨p4, c4, rfl⟩ := own_form ho4
  clear hA4 hdA ho4
  have HE1 : Hid ((s.extract 0 m).size ≤ maxLen) := Lib.hid (by rw [ByteArray.size_extract]; unfold maxLen; omega)
  have HE2 : Hid ((s.extract m s.size).size ≤ maxLen) := Lib.hid (by rw [ByteArray.size_extract]; unfold maxLen; omega)
  go_wp2_with fail
  refine (do_at2 w w4 b d0 a dA 1 (s.extract 0 m) HA4.out HG.out HE1.out).mono ?_
  rintro e5 w5 ⟨⟨v5, rfl, ho5⟩, hA5, _, _⟩
  obtain ⟨dB1, hddB1⟩ : ∃ x, (doDS d0 1 (s.extract 0 m).data.toList).1 = x := ⟨_, rfl⟩
  rw [hddB1] at hA5
  have HDdB1 := Lib.hid hddB1
  have HA5 := Lib.hid hA5
  obtain ⟨p5, c5, rfl⟩ := own_form ho5
  clear hA5 hddB1 ho5
  go_wp2_with fail
  refine (do_at2 w w5 b dB1 a dA 2 ⟨#[]⟩ HA5.out HG.out (by decide)).mono ?_
  rintro e6 w6 ⟨⟨v6, rfl, ho6⟩, hA6, _, _⟩
  obtain ⟨dB2, hddB2⟩ : ∃ x, (doDS dB1 2 (⟨#[]⟩ : ByteArray).data.toList).1 = x := ⟨_, rfl⟩
  rw [hddB2] at hA6
  have HDdB2 := Lib.hid hddB2
  have HA6 := Lib.hid hA6
  obtain ⟨p6, c6, rfl⟩ := own_form ho6
  clear hA6 hddB2 ho6
  go_wp2_with fail
  refine (do_at2 w w6 b dB2 a dA 1 ⟨#[]⟩ HA6.out HG.out (by decide)).mono ?_
  rintro e7 w7 ⟨⟨v7, rfl, ho7⟩, hA7, _, _⟩
  obtain ⟨dB3, hddB3⟩ : ∃ x, (doDS dB2 1 (⟨#[]⟩ : ByteArray).data.toList).1 = x := ⟨_, rfl⟩
  rw [hddB3] at hA7
  have HDdB3 := Lib.hid hddB3
  have HA7 := Lib.hid hA7
  obtain ⟨p7, c7, rfl⟩ := own_form ho7
  clear hA7 hddB3 ho7
  go_wp2_with fail
  refine (do_at2 w w7 b dB3 a dA 1 (s.extract m s.size) HA7.out HG.out HE2.out).mono ?_
  rintro e8 w8 ⟨⟨v8, rfl, ho8⟩, hA8, _, _⟩
  obtain ⟨dB4, hddB4⟩ : ∃ x, (doDS dB3 1 (s.extract m s.size).data.toList).1 = x := ⟨_, rfl⟩
  rw [hddB4] at hA8
  have HDdB4 := Lib.hid hddB4
  have HA8 := Lib.hid hA8.swap
  obtain ⟨p8, c8, rfl⟩ := own_form ho8
  clear hA8 hddB4 ho8
  go_wp2_with fail
  refine (do_at2 w w8 a dA b dB4 3 ⟨#[]⟩ HA8.out HG.out (by decide)).mono ?_
  rintro e9 w9 ⟨⟨v9, rfl, ho9⟩, hA9, _, _⟩
  obtain ⟨x, hx⟩ : ∃ x, (doDS dA 3 (⟨#[]⟩ : ByteArray).data.toList).2 = x := ⟨_, rfl⟩
  rw [hx] at ho9 ⊢
  have HX := Lib.hid hx
  have HA9 := Lib.hid hA9.swap
  clear hA9 hx
  obtain ⟨cd, ⟨x0, y0, f0⟩, out⟩ := x
  obtain ⟨p9, c9, rfl⟩ := own_form ho9
  have HO9 := Lib.hid ho9
  clear ho9
  simp only [rpV]
  go_wp2_with fail
  refine (do_at2 w w9 b dB4 a (doDS dA 3 []).1 3 ⟨#[]⟩ HA9.out HG.out (by decide)).mono ?_
  rintro e10 w10 ⟨⟨v10, rfl, ho10⟩, hA10, hSt10, hz10⟩
  have hxy : (doDS dB4 3 (⟨#[]⟩ : ByteArray).data.toList).2 = ⟨cd, (x0, y0, f0), out⟩ := by
    have h := parts_two (Pl.find hint.data.toList) s.data.toList m (by omega) (by omega)
    rw [show newDS (Pl.find hint.data.toList) = d0 from HD0.out, ← extract_take s m, ← extract_drop s m] at h
    rw [show (doDS d0 1 (s.extract 0 m).data.toList).1 = dB1 from HDdB1.out, show (doDS dB1 2 []).1 = dB2 from HDdB2.out, show (doDS dB2 1 []).1 = dB3 from HDdB3.out, show (doDS dB3 1 (s.extract m s.size).data.toList).1 = dB4 from HDdB4.out, show (doDS d0 1 s.data.toList).1 = dA from HDA.out] at h
    exact h.trans HX.out
  rw [hxy] at ho10 ⊢
  have HA10 := Lib.hid hA10
  have HO10 := Lib.hid ho10
  have HO9' := Lib.hid (own_stay HO9.out hSt10)
  obtain ⟨p10, c10, rfl⟩ := own_form ho10
  clear hA10 ho10 hSt10 hxy HO9
  simp only [rpV]
  go_wp2_with fail
  have hol : out.length ≤ 24002 := by
    have h := out_len dA HA8.out.ok 3 []
    rw [show (doDS dA 3 []).2 = _ from HX.out] at h
    exact h
  have hb11 : Below w10.heap.size w10 ((w10.alloc (.cells #[.int .i64 cd, .int .i64 x0, .int .i64 y0, .bool f0, .slice p9 out.length c9] 38)).alloc (.cells #[.int .i64 cd, .int .i64 x0, .int .i64 y0, .bool f0, .slice p10 out.length c10] 38)) := two_new _ _ _
  have hx11 : ((w10.alloc (.cells #[.int .i64 cd, .int .i64 x0, .int .i64 y0, .bool f0, .slice p9 out.length c9] 38)).alloc (.cells #[.int .i64 cd, .int .i64 x0, .int .i64 y0, .bool f0, .slice p10 out.length c10] 38)).heap[w10.heap.size]? = some (.cells #[.int .i64 cd, .int .i64 x0, .int .i64 y0, .bool f0, .slice p9 out.length c9] 38 (0, 0)) := (Go.Deep.blk_alloc_lt _ _ _ (by simp)).trans (heap_alloc_new w10 _)
  have hA11 := HA10.out.fst.next hb11
  have hO11 := own_stay HO9'.out (Stay.below hb11)
  have hI11 := own_ints (own_stay HO10.out (Stay.below hb11))
  generalize w10.heap.size = X at hx11 ⊢
  generalize World.alloc _ _ = w11 at hb11 hx11 hA11 hO11 hI11 ⊢
  refine (topSameReply_any w11 cd x0 y0 f0 _ _ out (by unfold maxLen; omega) (own_ints hO11) hI11).mono ?_
  rintro e12 w12 ⟨rfl, hb12⟩
  have HB12 := Lib.hid (hA11.next hb12).below
  have HX12 := Lib.hid ((hb12.block _ (Array.getElem?_eq_some_iff.1 hx11).1).trans hx11)
  have HO12 := Lib.hid (own_stay hO11 (Stay.below hb12))
  clear hb11 hx11 hA11 hO11 hI11 hb12 HA10 HO10 HO9'
  by_cases h200 : 200 < s.size
  · have h2002 : (200 : Int) < (s.size : Int) := by omega
    go_wp2_with fail
    go_ret
    exact ⟨rfl, HB12.out⟩
  have h2002 : (s.size : Int) ≤ 200 := by omega
  go_wp2_with fail
  refine (new_at hint w w12 HB12.out HH.out).mono ?_
  rintro e13 w13 ⟨⟨c, rfl, _, hA13⟩, hb13⟩
  rw [show newDS (Pl.find hint.data.toList) = d0 from HD0.out] at hA13
  have HA13 := Lib.hid hA13
  have HX13 := Lib.hid ((hb13.block _ (Array.getElem?_eq_some_iff.1 HX12.out).1).trans HX12.out)
  have HO13 := Lib.hid (own_stay HO12.out (Stay.below hb13))
  clear hA13 hb13
  go_wp2_with fail
  go_loopw [74] (fun i wr => ∃ j : Nat, j ≤ s.size ∧ i = .int .i64 j ∧ Aside (At w c (fedAll d0 (s.data.toList.take j)) wr) ∧ Aside (wr.heap[X]? = some (.cells #[.int .i64 cd, .int .i64 x0, .int .i64 y0, .bool f0, .slice p9 out.length c9] 38 (0, 0))) ∧ Aside (wr.ownsRow w8.heap.size 3 1 (.slice p9 out.length c9) out.length (ints out))) (fun i _ => s.size - (intOf i).toNat)
  case atStart => exact ⟨0, by omega, rfl, HA13.out, HX13.out, HO13.out⟩
  case round =>
    obtain ⟨j, hj, rfl, hAt, hXr, hOr⟩ := hrel
    by_cases hlt : j < s.size
    · have hlt2 : (j : Int) < (s.size : Int) := by omega
      go_wp2_with fail
      refine (do_at w wr c (fedAll d0 (s.data.toList.take j)) 1 (s.extract j (j + 1)) hAt.out HG.out ?hsz).mono ?_
      case hsz =>
        rw [ByteArray.size_extract]
        unfold maxLen
        omega
      rintro e14 w14 ⟨⟨v14, rfl, ho14⟩, hA14, hSt14, _⟩
      obtain ⟨y, hy⟩ : ∃ y, s.data.toList[j]? = some y := ⟨_, List.getElem?_eq_getElem (by omega)⟩
      have hst : (doDS (fedAll d0 (s.data.toList.take j)) 1 (s.extract j (j + 1)).data.toList).1 = fedAll d0 (s.data.toList.take (j + 1)) := by
        rw [extract_one s j y hy, ← HD0.out]
        exact fedAll_step _ _ j y (by omega) hy
      rw [hst] at hA14
      have HA14 := Lib.hid hA14
      have HX14 := Lib.hid (hSt14 _ _ _ _ (by decide) (by decide) hXr.out)
      have HO14 := Lib.hid (own_stay hOr.out hSt14)
      obtain ⟨p14, c14, rfl⟩ := own_form ho14
      clear hA14 hSt14 ho14 hst hy
      go_wp2_with fail
      go_roundw
      case rel => exact ⟨j + 1, by omega, by go_num, HA14.out, HX14.out, HO14.out⟩
      case measure => simp [intOf]; omega
    · have hj2 : j = s.data.toList.length := by omega
      have hAt2 := hAt.out
      rw [hj2, List.take_length] at hAt2
      have HAt2 := Lib.hid hAt2
      have HXr := Lib.hid hXr.out
      have HOr := Lib.hid hOr.out
      have f0' : wr.cell? ⟨X, 0, none⟩ = some (.int .i64 cd) := cell_of_row wr X 0 _ _ _ HXr.out
      have f1' : wr.cell? ⟨X, 1, none⟩ = some (.int .i64 x0) := cell_of_row wr X 1 _ _ _ HXr.out
      have f2' : wr.cell? ⟨X, 2, none⟩ = some (.int .i64 y0) := cell_of_row wr X 2 _ _ _ HXr.out
      have f3' : wr.cell? ⟨X, 3, none⟩ = some (.bool f0) := cell_of_row wr X 3 _ _ _ HXr.out
      have f4' : wr.cell? ⟨X, 4, none⟩ = some (.slice p9 out.length c9) := cell_of_row wr X 4 _ _ _ HXr.out
      have hxz : (doDS (fedAll d0 s.data.toList) 3 []).2 = ⟨cd, (x0, y0, f0), out⟩ := by
        have h := parts_bytes (Pl.find hint.data.toList) s.data.toList (by omega)
        rw [show newDS (Pl.find hint.data.toList) = d0 from HD0.out, show (doDS d0 1 s.data.toList).1 = dA from HDA.out] at h
        exact h.trans HX.out
      have HDo : Hid (∀ W', Drew wr W' → Calls Tryd.prog 24 #[.pointer (some ⟨c, 0, none⟩), .agg #[.int .i64 3, .string ⟨#[]⟩]] W' fun e w' =>
          (∃ v, e = .returned (.agg #[.int .i64 cd, .int .i64 x0, .int .i64 y0, .bool f0, v]) ∧ w'.ownsRow W'.heap.size 3 1 v out.length (ints out)) ∧ Below w.heap.size w w' ∧ Stay wr w') := Lib.hid fun W' hW => by
        refine (do_at w W' c (fedAll d0 s.data.toList) 3 ⟨#[]⟩ (hW.at2_ HAt2.out) HG.out (by decide)).mono ?_
        rintro e w' ⟨⟨v, rfl, ho⟩, hA, hSt, _⟩
        rw [show (doDS (fedAll d0 s.data.toList) 3 (⟨#[]⟩ : ByteArray).data.toList).2 = _ from hxz] at ho ⊢
        exact ⟨⟨v, rfl, ho⟩, hA.below, (stay_of_drew hW).trans hSt⟩
      have hol2 : out.length ≤ maxLen := by unfold maxLen; omega
      have HL2 := Lib.hid hol2
      clear hxz hAt2 hAt hXr hOr hol2
      go_wp2_with fail
      go_region_with
        (first
          | (go_at_call 24
             refine (HDo.out _ (by first | exact (Drew.refl wr).drew | exact Drew.refl wr | exact ⟨_, rfl⟩)).mono ?_
             rintro e15 w15 ⟨⟨v15, rfl, ho15⟩, hb15, hSt15⟩
             obtain ⟨p15, c15, rfl⟩ := own_form ho15
             have HI15 := Lib.hid (own_ints ho15)
             have HI9 := Lib.hid (own_ints (own_stay HOr.out hSt15))
             have HB15 := Lib.hid hb15
             have hx15 := hSt15 _ _ _ _ (by decide) (by decide) HXr.out
             have f0'' : w15.cell? ⟨X, 0, none⟩ = some (.int .i64 cd) := cell_of_row w15 X 0 _ _ _ hx15
             have f1'' : w15.cell? ⟨X, 1, none⟩ = some (.int .i64 x0) := cell_of_row w15 X 1 _ _ _ hx15
             have f2'' : w15.cell? ⟨X, 2, none⟩ = some (.int .i64 y0) := cell_of_row w15 X 2 _ _ _ hx15
             have f3'' : w15.cell? ⟨X, 3, none⟩ = some (.bool f0) := cell_of_row w15 X 3 _ _ _ hx15
             have f4'' : w15.cell? ⟨X, 4, none⟩ = some (.slice p9 out.length c9) := cell_of_row w15 X 4 _ _ _ hx15
             clear ho15 hb15 hSt15 hx15)
          | (go_at_call 28
             refine (topSameReply_any _ cd x0 y0 f0 _ _ out HL2.out HI9.out HI15.out).mono ?_
             rintro e16 w16 ⟨rfl, hb16⟩
             have HB16 := Lib.hid (HB15.out.trans (hb16.mono HB15.out.size))
             clear hb16))
      all_goals
        go_wp2_with fail
        go_ret
        exact ⟨rfl, HB16.out⟩
end Go.Proofs.YtefohnbmifblkaaDoor
