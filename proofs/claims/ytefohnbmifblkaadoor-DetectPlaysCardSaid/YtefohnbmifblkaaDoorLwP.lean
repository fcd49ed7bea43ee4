/-
  The walk of DetectPlays.
-/
import Derived.Test.YtefohnbmifblkaaDoorRfI
import Derived.Test.YtefohnbmifblkaaDoorDoG
import Derived.Deep.RegionWith
namespace Go.Proofs.YtefohnbmifblkaaDoor
open Go.RowKit
attribute [local go_sem ↓] Go.wp_at_zero Go.wp_at_succ

set_option maxRecDepth 100000 in
set_option maxHeartbeats 8000000 in
theorem detectPlays_walk (hint : ByteArray) (v : Value) (l : List Ac) (w : World) (hh : hint.size ≤ maxLen) (hl : Acts w v l) (hsm : ∀ x ∈ l, x.2.size ≤ 140737488351232) (hg : Gl w) (hmx : Mx w) :
    Calls Tryd.prog 8 #[.string hint, v] w fun e w' => e = .returned (.bool true) ∧ Below w.heap.size w w' := by
  have HG := Lib.hid hg
  have HH := Lib.hid hh
  have HM := Lib.hid hmx
  obtain ⟨p, cp, rfl, hlen, hsz, hcs⟩ := hl
  unfold maxLen at hlen
  have HSm := Lib.hid hsm
  clear hg hh hmx hsm
  obtain ⟨d0, hd0⟩ : ∃ x, newDS (Pl.find hint.data.toList) = x := ⟨_, rfl⟩
  have HD0 := Lib.hid hd0
  have hf := find_range hint.data.toList
  have hok := okNew _ hf.1 hf.2
  rw [hd0] at hok
  have hsc := ScF.new (Pl.find hint.data.toList)
  rw [hd0] at hsc
  have HOK := Lib.hid hok
  have HSC := Lib.hid hsc
  clear hd0 hf hok hsc
  go_enter Tryd.func8, Tryd.ntmps8
  go_wp2_with fail
  refine (new_at hint w w (Below.refl _ _) HH.out).mono ?_
  rintro e1 w1 ⟨⟨b, rfl, _, hA1⟩, hb1⟩
  rw [show newDS (Pl.find hint.data.toList) = d0 from HD0.out] at hA1
  have HA1 := Lib.hid hA1
  have HB1 := Lib.hid hb1
  clear hA1 hb1
  go_wp2_with fail
  refine (refFind_any hint _ HH.out (HM.out.below HB1.out)).mono ?_
  rintro e2 w2 ⟨rfl, hb2⟩
  have HA2 := Lib.hid (HA1.out.next hb2)
  have hc0 : w.heap.size ≤ w2.heap.size := HA2.out.below.size
  clear hb2
  go_wp2_with fail
  have hA3 := HA2.out.alloc (.cells #[.int .i64 (Pl.find hint.data.toList), .string ⟨#[]⟩, .bool false, .int .i64 0] 48)
  have hR3 : RDet (w2.alloc (.cells #[.int .i64 (Pl.find hint.data.toList), .string ⟨#[]⟩, .bool false, .int .i64 0] 48)) w2.heap.size (newDS (Pl.find hint.data.toList)) := heap_alloc_new w2 _
  rw [show newDS (Pl.find hint.data.toList) = d0 from HD0.out] at hR3
  generalize World.alloc _ _ = w3 at hA3 hR3 ⊢
  generalize w2.heap.size = c at hc0 hR3 ⊢
  have HA3 := Lib.hid hA3
  have HR3 := Lib.hid hR3
  clear hA3 hR3
  go_loopw [7] (fun i wr => ∃ k : Nat, k ≤ l.length ∧ k ≤ 60 ∧ i = .int .i64 k ∧ Aside (At w b (runA d0 (l.take k)) wr) ∧ Aside (RDet wr c (runA d0 (l.take k)))) (fun i _ => 200 - (intOf i).toNat)
  case atStart => exact ⟨0, by omega, by omega, rfl, HA3.out, HR3.out⟩
  case round =>
    obtain ⟨k, hk, hk1, rfl, hAt, hRt⟩ := hrel
    by_cases hlt : k < l.length
    · have hlt2 : (k : Int) < (l.length : Int) := by omega
      by_cases h60 : k < 60
      · have h602 : (k : Int) < 60 := by omega
        obtain ⟨x, hx⟩ : ∃ x, l[k]? = some x := ⟨_, List.getElem?_eq_getElem hlt⟩
        have hxs : x.2.size ≤ maxLen := hsz x (List.mem_of_getElem? hx)
        rcases hcs with rfl | ⟨g', off, rfl, hcs⟩
        · simp at hlt
        have hgl := lt_of_cell (hcs k x hx).1
        have HC1 : Hid (∀ W, Below w.heap.size w W → W.cell? ⟨g', off + k * 2, none⟩ = some (.int .i64 x.1) ∧ W.cell? ⟨g', off + k * 2 + 1, none⟩ = some (.string x.2)) := Lib.hid fun W hW => ⟨(hW.cell (p := ⟨g', _, none⟩) hgl).trans (hcs k x hx).1, (hW.cell (p := ⟨g', _, none⟩) hgl).trans (hcs k x hx).2⟩
        have HX := Lib.hid hx
        have HXS := Lib.hid hxs
        have hxq := HSm.out x (List.mem_of_getElem? HX.out)
        clear hx hxs hcs hsz hgl
        obtain ⟨c1, c2⟩ := HC1.out wr hAt.out.below
        obtain ⟨d, hd⟩ : ∃ d, runA d0 (l.take k) = d := ⟨_, rfl⟩
        have hokd := runA_ok d0 HOK.out (l.take k)
        have hscd := HSC.out.run (l.take k)
        have hd' := runA_succ d0 l k x HX.out
        rw [hd] at hAt hRt hokd hscd hd'
        obtain ⟨d', hdd⟩ : ∃ d', act d x = d' := ⟨_, rfl⟩
        rw [hdd] at hd'
        have HD' := Lib.hid hd'
        obtain ⟨r, hr⟩ : ∃ r, (doDS d x.1 x.2.data.toList).2 = r := ⟨_, rfl⟩
        have hol := out_len d hokd x.1 x.2.data.toList
        rw [hr] at hol
        have HOl := Lib.hid hol
        obtain ⟨B, hB⟩ : ∃ B : ByteArray, (⟨d'.bs.toArray⟩ : ByteArray) = B := ⟨_, rfl⟩
        obtain ⟨cd, ⟨x0, y0, f0⟩, out⟩ := r
        have H1 : Hid (∀ W, At w b d W → RDet W c d → Calls Tryd.prog 24 #[.pointer (some ⟨b, 0, none⟩), .agg #[.int .i64 x.1, .string x.2]] W fun e w' =>
            (∃ u, e = .returned (.agg #[.int .i64 cd, .int .i64 x0, .int .i64 y0, .bool f0, u]) ∧ w'.ownsRow W.heap.size 3 1 u out.length (ints out)) ∧ At w b d' w' ∧ RDet w' c d) := Lib.hid fun W h1 h2 => by
          have h := do_beside w W b c d d x.1 x.2 h1 h2 HG.out HXS.out
          rw [hr, show (doDS d x.1 x.2.data.toList).1 = d' from hdd] at h
          exact h
        have H2 : Hid (∀ W, At w b d' W → RDet W c d → Calls Tryd.prog 30 #[.pointer (some ⟨c, 0, none⟩), .agg #[.int .i64 x.1, .string x.2]] W fun e w' =>
            (∃ u, e = .returned (.agg #[.int .i64 cd, .int .i64 x0, .int .i64 y0, .bool f0, u]) ∧ w'.ownsRow W.heap.size 3 1 u out.length (ints out)) ∧ At w b d' w' ∧ RDet w' c d' ∧ (∀ base n v xs, W.ownsRow base 3 1 v n xs → w'.ownsRow base 3 1 v n xs)) := Lib.hid fun W h1 h2 => by
          have h := ref_beside w W b c d d' x.1 x.2 h1 h2 hc0 hokd hscd HM.out hxq
          rw [hr, show (doDS d x.1 x.2.data.toList).1 = d' from hdd] at h
          exact h
        have H3 : Hid (∀ W, At w b d' W → Calls Tryd.prog 25 #[.pointer (some ⟨b, 0, none⟩)] W fun e w' => e = .returned (.string B) ∧ W = w') := Lib.hid fun W h => by
          rw [← hB]
          exact bytes_at w W b d' h
        have H4 : Hid (∀ W, RDet W c d' → W.cell? ⟨c, 1, none⟩ = some (.string B)) := Lib.hid fun W h => by
          rw [← hB]
          exact h.cells.2.1
        have HAt := Lib.hid hAt.out
        have HRt := Lib.hid hRt.out
        clear hAt hRt hd hokd hscd hd' hdd hr hol hB
        go_wp2_with fail
        go_region_with
          (first
            | (go_at_call 24
               refine (H1.out _ (by first | exact HAt.out.drew | exact HAt.out | exact Drew.at_ HAt.out ⟨_, rfl⟩) (by first | exact HRt.out.drew ((Drew.refl wr).drew) | exact HRt.out | exact HRt.out.drew ⟨_, rfl⟩)).mono ?_
               rintro e4 w4 ⟨⟨u4, rfl, ho4⟩, hA4, hR4⟩
               obtain ⟨p4, n4, rfl⟩ := own_form ho4
               obtain ⟨k1, k2⟩ := HC1.out w4 hA4.below
               have HO4 := Lib.hid ho4
               have HA4 := Lib.hid hA4
               have HR4 := Lib.hid hR4
               clear ho4 hA4 hR4)
            | (go_at_call 30
               refine (H2.out _ HA4.out HR4.out).mono ?_
               rintro e5 w5 ⟨⟨u5, rfl, ho5⟩, hA5, hR5, hK5⟩
               obtain ⟨p5, n5, rfl⟩ := own_form ho5
               have HI4 := Lib.hid (own_ints (hK5 _ _ _ _ HO4.out))
               have HI5 := Lib.hid (own_ints ho5)
               have HA5 := Lib.hid hA5
               have HR5 := Lib.hid hR5
               clear ho5 hA5 hR5 hK5)
            | (go_at_call 23
               refine (refSameReply_any _ cd x0 y0 f0 _ _ out (by have := HOl.out; unfold maxLen; omega) HI4.out HI5.out).mono ?_
               rintro e6 w6 ⟨rfl, hb6⟩
               have HA6 := Lib.hid (HA5.out.next hb6)
               have hR6 := HR5.out.below hb6
               have s6 := H4.out w6 hR6
               have HR6 := Lib.hid hR6
               clear hb6 hR6)
            | (go_at_call 25
               refine (H3.out _ HA6.out).mono ?_
               rintro e7 w7 ⟨rfl, hw7⟩
               subst hw7))
        all_goals
          clear c1 c2 k1 k2 s6
          go_wp2_with fail
          go_roundw
          case rel =>
            refine ⟨k + 1, by omega, by omega, by go_num, ?_, ?_⟩
            · rw [HD'.out]
              exact HA6.out
            · rw [HD'.out]
              exact HR6.out
          case measure => simp [intOf]; omega
      · have hk2 : k = 60 := by omega
        subst hk2
        go_wp2_with fail
        go_ret
        exact ⟨rfl, hAt.out.below⟩
    · have hk2 : k = l.length := by omega
      subst hk2
      go_wp2_with fail
      go_ret
      exact ⟨rfl, hAt.out.below⟩
end Go.Proofs.YtefohnbmifblkaaDoor
