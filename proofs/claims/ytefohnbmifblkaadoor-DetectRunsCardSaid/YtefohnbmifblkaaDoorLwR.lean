/-
  The walk of DetectRuns.
-/
import Derived.Test.YtefohnbmifblkaaDoorRfI
import Derived.Test.YtefohnbmifblkaaDoorTpU
import Derived.Deep.RegionWith
namespace Go.Proofs.YtefohnbmifblkaaDoor
open Go.RowKit
attribute [local go_sem ↓] Go.wp_at_zero Go.wp_at_succ

theorem Reps.keepR {base c : Nat} {w w' : World} {v : Value} {rs : List Rp} {d : DS} (h : Reps base w v rs) (hR : RDet w c d) (hk : Keep w w' c none) : Reps base w' v rs := by
  obtain ⟨us, h1, h2, h3⟩ := h
  exact ⟨us, h1, own_keepR (by decide) h2 hR hk, fun j r u hj hu => own_keepR (by decide) (h3 j r u hj hu) hR hk⟩
/-- the replies' block is of the replies' type. -/
theorem Reps.ty {base gr n c : Nat} {w : World} {rs : List Rp} (h : Reps base w (.slice (some ⟨gr, 0, none⟩) n c) rs) : ∃ cs, w.heap[gr]? = some (.cells cs 38 (0, 0)) := by
  obtain ⟨us, h1, h2, h3⟩ := h
  rcases h2.2 with ⟨h0, _⟩ | ⟨g, cap, cur, hg, _, hh, _⟩
  · cases h0
  · injection hg with hg _ _
    injection hg with hg
    injection hg with hg _ _
    subst hg
    exact ⟨cur, hh⟩
theorem repl_at : ∀ (l : List Ac) (d : DS) (k : Nat) (x : Ac), l[k]? = some x → (repl d l)[k]? = some (doDS (runA d (l.take k)) x.1 x.2.data.toList).2
  | [], _, _, _, h => by simp at h
  | a :: l, d, 0, x, h => by
    simp at h
    subst h
    rfl
  | a :: l, d, k + 1, x, h => repl_at l (act d a) k x (by simpa using h)
/-- Run at one act of no kind. -/
theorem run_one (hint : ByteArray) (w W : World) (hh : hint.size ≤ maxLen) (hg : Gl w) (hb : Below w.heap.size w W) (g : Nat) (hW : W.heap[g]? = some (.cells #[.int .i64 99, .string ⟨#[]⟩] 30 (0, 0))) :
    Calls Tryd.prog 33 #[.string hint, .slice (some ⟨g, 0, none⟩) 1 1] W fun e w' => (∃ p c, e = .returned (.tuple #[.slice p 1 c, .int .i64 0])) ∧ Below W.heap.size W w' := by
  have hA : Acts W (.slice (some ⟨g, 0, none⟩) 1 1) [(99, ⟨#[]⟩)] := by
    refine ⟨_, _, rfl, by decide, ?_, .inr ⟨g, 0, rfl, ?_⟩⟩
    · intro x hx
      simp at hx
      subst hx
      decide
    · intro j x hj
      rcases j with _ | j
      · simp at hj
        subst hj
        exact ⟨cell_of_row W g 0 _ _ _ hW, cell_of_row W g 1 _ _ _ hW⟩
      · simp at hj
  refine (run_any hint _ [(99, ⟨#[]⟩)] W hh hA (hg.below hb) (by decide)).mono ?_
  rintro e w' ⟨⟨v, rfl, hR⟩, hb⟩
  obtain ⟨p, c, rfl⟩ := hR.form
  exact ⟨⟨p, c, rfl⟩, hb⟩

set_option maxRecDepth 100000 in
set_option maxHeartbeats 8000000 in
theorem detectRuns_walk (hint : ByteArray) (v : Value) (l : List Ac) (w : World) (hh : hint.size ≤ maxLen) (hl : Acts w v l) (hsm : ∀ x ∈ l, x.2.size ≤ 140737488351232) (hlc : l.length ≤ 5864062014805) (hg : Gl w) (hmx : Mx w) :
    Calls Tryd.prog 10 #[.string hint, v] w fun e w' => e = .returned (.bool true) ∧ Below w.heap.size w w' := by
  have HG := Lib.hid hg
  have HH := Lib.hid hh
  have HM := Lib.hid hmx
  have HA := Lib.hid hl
  obtain ⟨p, c, rfl, hlen, hsz, hcs⟩ := hl
  have HSm := Lib.hid hsm
  have HSZ := Lib.hid hsz
  have HCS := Lib.hid hcs
  unfold maxLen at hlen
  clear hg hh hsm hmx hsz hcs
  obtain ⟨d0, hd0⟩ : ∃ x, newDS (Pl.find hint.data.toList) = x := ⟨_, rfl⟩
  have HD0 := Lib.hid hd0
  have hf := find_range hint.data.toList
  have hok := okNew _ hf.1 hf.2
  rw [hd0] at hok
  have hsc := ScF.new (Pl.find hint.data.toList)
  rw [hd0] at hsc
  have HOK := Lib.hid hok
  have HSC := Lib.hid hsc
  clear hd0 hf hok hsc
  have H99 : Hid (∀ (W : World) (g : Nat), Below w.heap.size w W → W.heap[g]? = some (.cells #[.int .i64 99, .string ⟨#[]⟩] 30 (0, 0)) → Calls Tryd.prog 33 #[.string hint, .slice (some ⟨g, 0, none⟩) 1 1] W fun e w' => (∃ p c, e = .returned (.tuple #[.slice p 1 c, .int .i64 0])) ∧ Below W.heap.size W w') := Lib.hid fun W g hb hW => run_one hint w W HH.out HG.out hb g hW
  go_enter Tryd.func10, Tryd.ntmps10
  go_wp2_with (first
    | (at_builtin
       with_reducible refine gate_append ?_
       refine wpList_appA (by rfl) _ _ (by rfl) _ l (by rfl) (by rfl) HA.out (by omega) ?_
       intro v2 w2 hA2 hb2
       have HA2 := Lib.hid hA2
       have HB2 := Lib.hid hb2
       clear hA2 hb2))
  by_cases h300 : 300 < l.length
  · have h3002 : (300 : Int) < (l.length : Int) := by omega
    refine (run_long hint v2 l w2 HA2.out h300).mono ?_
    rintro e3 w3 ⟨rfl, hw3⟩
    subst hw3
    go_wp2_with fail
    have hb3 := HB2.out.alloc HB2.out.size (.cells #[.int .i64 99, .string ⟨#[]⟩] 30)
    refine (H99.out _ _ hb3 (heap_alloc_new w2 _)).mono ?_
    rintro e4 w4 ⟨⟨p4, c4, rfl⟩, hb4⟩
    have HB4 := Lib.hid (bthen hb3 hb4)
    clear hb3 hb4
    go_wp2_with fail
    go_ret
    exact ⟨rfl, HB4.out⟩
  have h3003 : ¬ (300 : Int) < (l.length : Int) := by omega
  refine (run_any hint v2 l w2 HH.out HA2.out (HG.out.below HB2.out) (by omega)).mono ?_
  rintro e3 w3 ⟨⟨v3, rfl, hR3⟩, hb3⟩
  rw [show newDS (Pl.find hint.data.toList) = d0 from HD0.out] at hR3
  obtain ⟨p3, c3, rfl⟩ := hR3.form
  have hl3 : (repl d0 l).length = l.length := repl_len l d0
  rw [hl3] at hR3 ⊢
  have HR3 := Lib.hid hR3
  have HB3 := Lib.hid (bthen HB2.out hb3)
  clear hR3 hb3 hl3
  generalize w2.heap.size = B2 at HR3
  go_wp2_with fail
  have hb4 := HB3.out.alloc HB3.out.size (.cells #[.int .i64 99, .string ⟨#[]⟩] 30)
  have hR4 := HR3.out.stay (Stay.below ((Below.refl w3.heap.size w3).alloc (Nat.le_refl _) (.cells #[.int .i64 99, .string ⟨#[]⟩] 30)))
  refine (H99.out _ _ hb4 (heap_alloc_new w3 _)).mono ?_
  rintro e5 w5 ⟨⟨p5, c5, rfl⟩, hb5⟩
  have HB5 := Lib.hid (bthen hb4 hb5)
  have HR5 := Lib.hid (hR4.stay (Stay.below hb5))
  clear hb4 hb5 hR4
  go_wp2_with fail
  refine (refFind_any hint _ HH.out (HM.out.below HB5.out)).mono ?_
  rintro e6 w6 ⟨rfl, hb6⟩
  have HB6 := Lib.hid (bthen HB5.out hb6)
  have HR6 := Lib.hid (HR5.out.stay (Stay.below hb6))
  clear hb6
  have hnn : ((l.length : Int) != (l.length : Int)) = false := by simp
  go_wp2_with fail
  have hc0 : w.heap.size ≤ w6.heap.size := HB6.out.size
  have hb7 := HB6.out.alloc hc0 (.cells #[.int .i64 (Pl.find hint.data.toList), .string ⟨#[]⟩, .bool false, .int .i64 0] 48)
  have hR7 := HR6.out.stay (Stay.below ((Below.refl w6.heap.size w6).alloc (Nat.le_refl _) (.cells #[.int .i64 (Pl.find hint.data.toList), .string ⟨#[]⟩, .bool false, .int .i64 0] 48)))
  have hD7 : RDet (w6.alloc (.cells #[.int .i64 (Pl.find hint.data.toList), .string ⟨#[]⟩, .bool false, .int .i64 0] 48)) w6.heap.size (newDS (Pl.find hint.data.toList)) := heap_alloc_new w6 _
  rw [show newDS (Pl.find hint.data.toList) = d0 from HD0.out] at hD7
  have hcm : 2 ≠ w6.heap.size := by
    obtain ⟨m, hm⟩ := HM.out
    have := lt_of_cell hm
    omega
  generalize World.alloc _ _ = w7 at hb7 hR7 hD7 ⊢
  generalize w6.heap.size = g at hc0 hD7 hcm ⊢
  have HB7 := Lib.hid hb7
  have HR7 := Lib.hid hR7
  have HD7 := Lib.hid hD7
  clear hb7 hR7 hD7
  go_loopw [10] (fun i wr => ∃ k : Nat, k ≤ l.length ∧ i = .int .i64 k ∧ Aside (Below w.heap.size w wr) ∧ Aside (RDet wr g (runA d0 (l.take k))) ∧ Aside (Reps B2 wr (.slice p3 l.length c3) (repl d0 l))) (fun i _ => l.length - (intOf i).toNat)
  case atStart => exact ⟨0, by omega, rfl, HB7.out, HD7.out, HR7.out⟩
  case round =>
    obtain ⟨k, hk, rfl, hBr, hDr, hRr⟩ := hrel
    by_cases hlt : k < l.length
    · have hlt2 : (k : Int) < (l.length : Int) := by omega
      obtain ⟨x, hx⟩ : ∃ x, l[k]? = some x := ⟨_, List.getElem?_eq_getElem hlt⟩
      have hxs : x.2.size ≤ 140737488351232 := HSm.out x (List.mem_of_getElem? hx)
      obtain ⟨d, hd⟩ : ∃ d, runA d0 (l.take k) = d := ⟨_, rfl⟩
      have hokd := runA_ok d0 HOK.out (l.take k)
      have hscd := HSC.out.run (l.take k)
      have hd' := runA_succ d0 l k x hx
      have hat := repl_at l d0 k x hx
      rw [hd] at hDr hokd hscd hd' hat
      obtain ⟨d', hdd⟩ : ∃ d', act d x = d' := ⟨_, rfl⟩
      rw [hdd] at hd'
      have HD' := Lib.hid hd'
      obtain ⟨r, hr⟩ : ∃ r, (doDS d x.1 x.2.data.toList).2 = r := ⟨_, rfl⟩
      rw [hr] at hat
      have hol := out_len d hokd x.1 x.2.data.toList
      rw [hr] at hol
      have HOl := Lib.hid hol
      obtain ⟨gr, u, rfl, x0, x1, x2, x3, x4, hI⟩ := hRr.out.at_ k r hat
      obtain ⟨gl, off, rfl, hcs⟩ : ∃ gl off : Nat, p = some ⟨gl, off, none⟩ ∧ ∀ (j : Nat) (x : Ac), l[j]? = some x → w.cell? ⟨gl, off + j * 2, none⟩ = some (.int .i64 x.1) ∧ w.cell? ⟨gl, off + j * 2 + 1, none⟩ = some (.string x.2) := by
        rcases HCS.out with h | h
        · subst h
          simp at hlt
        · exact h
      have hgl := lt_of_cell (hcs k x hx).1
      have c1 : wr.cell? ⟨gl, off + k * 2, none⟩ = some (.int .i64 x.1) := (hBr.out.cell (p := ⟨gl, _, none⟩) hgl).trans (hcs k x hx).1
      have c2 : wr.cell? ⟨gl, off + k * 2 + 1, none⟩ = some (.string x.2) := (hBr.out.cell (p := ⟨gl, _, none⟩) hgl).trans (hcs k x hx).2
      have HK1 : Hid (∀ W, Reps B2 W (.slice (some ⟨gr, 0, none⟩) l.length c3) (repl d0 l) → ∃ u', W.cell? ⟨gr, k * 5, none⟩ = some (.int .i64 r.code) ∧ W.cell? ⟨gr, k * 5 + 1, none⟩ = some (.int .i64 r.vd.1) ∧ W.cell? ⟨gr, k * 5 + 2, none⟩ = some (.int .i64 r.vd.2.1) ∧ W.cell? ⟨gr, k * 5 + 3, none⟩ = some (.bool r.vd.2.2) ∧ W.cell? ⟨gr, k * 5 + 4, none⟩ = some u' ∧ Ints W u' r.out) := Lib.hid fun W hW => by
        obtain ⟨g2, u', he, y0, y1, y2, y3, y4, hI'⟩ := hW.at_ k r hat
        injection he with he
        injection he with he _ _
        subst he
        exact ⟨u', y0, y1, y2, y3, y4, hI'⟩
      have HKu : Hid (∀ W, Reps B2 W (.slice (some ⟨gr, 0, none⟩) l.length c3) (repl d0 l) → Keep wr W g none → W.cell? ⟨gr, k * 5 + 4, none⟩ = wr.cell? ⟨gr, k * 5 + 4, none⟩) := Lib.hid fun W _ hkp => hkp.cell (p := ⟨gr, k * 5 + 4, none⟩) (lt_of_cell x4) (by
        rintro h
        have h : gr = g := h
        have e1 := Reps.ty hRr.out
        rw [h, show wr.heap[g]? = _ from hDr.out] at e1
        obtain ⟨cs, e1⟩ := e1
        injection e1 with e1
        injection e1 with _ e2 _
        exact absurd e2 (by decide)) (fun e => by cases e)
      obtain ⟨cd, ⟨v0, v1, f0⟩, out⟩ := r
      dsimp only at x0 x1 x2 x3 hI HK1
      have HDr := Lib.hid hDr.out
      have HBr := Lib.hid hBr.out
      have HRr := Lib.hid hRr.out
      have H2 : Hid (∀ W, Drew wr W → Calls Tryd.prog 30 #[.pointer (some ⟨g, 0, none⟩), .agg #[.int .i64 x.1, .string x.2]] W fun e w' =>
          (∃ u', e = .returned (.agg #[.int .i64 cd, .int .i64 v0, .int .i64 v1, .bool f0, u']) ∧ Ints w' u' out) ∧ RDet w' g d' ∧ Keep wr w' g none) := Lib.hid fun W hW => by
        refine (refDo_any g d x.1 x.2 W (HDr.out.drew hW) hokd hscd ((HM.out.below HBr.out).drew hW) hcm hxs).mono ?_
        rintro e w' ⟨⟨u', rfl, ho⟩, hR, hkp⟩
        rw [hr] at ho ⊢
        refine ⟨⟨u', rfl, own_ints ho⟩, by rw [← hdd]; exact hR, ?_⟩
        obtain ⟨n, rfl⟩ := hW
        exact ⟨hkp.os, hkp.tape, hkp.output, hkp.size, hkp.block⟩
      clear hDr hBr hRr hd hokd hscd hd' hdd hr hol hat hx hxs hcs hgl hI
      go_wp2_with fail
      go_region_with
        (first
          | (go_at_call 30
             refine (H2.out _ (by first | exact (Drew.refl wr).drew | exact Drew.refl wr | exact ⟨_, rfl⟩)).mono ?_
             rintro e8 w8 ⟨⟨u8, rfl, hi8⟩, hD8, hK8⟩
             obtain ⟨p8, n8, rfl, _⟩ := id hi8
             have hR8 := HRr.out.keepR HDr.out hK8
             obtain ⟨u', y0, y1, y2, y3, y4, hI'⟩ := HK1.out w8 hR8
             have hue : u' = u := Option.some.inj (y4.symm.trans ((HKu.out w8 hR8 hK8).trans x4))
             subst hue
             have HB8 := Lib.hid (HBr.out.trans (hK8.below hc0 (fun n e => by cases e) HBr.out.size))
             have HI8 := Lib.hid hi8
             have HI' := Lib.hid hI'
             have HD8 := Lib.hid hD8
             have HR8 := Lib.hid hR8
             clear hi8 hD8 hK8 hR8 hI')
          | (go_at_call 23
             refine (refSameReply_any _ cd v0 v1 f0 _ _ out (by have := HOl.out; unfold maxLen; omega) HI'.out HI8.out).mono ?_
             rintro e9 w9 ⟨rfl, hb9⟩
             have HB9 := Lib.hid (HB8.out.trans (hb9.mono HB8.out.size))
             have HD9 := Lib.hid (HD8.out.below hb9)
             have HR9 := Lib.hid (HR8.out.stay (Stay.below hb9))
             clear hb9))
      all_goals
        clear c1 c2 x0 x1 x2 x3 x4 y0 y1 y2 y3 y4
        go_wp2_with fail
        go_roundw
        case rel =>
          refine ⟨k + 1, by omega, by go_num, HB9.out, ?_, HR9.out⟩
          rw [HD'.out]
          exact HD9.out
        case measure => simp [intOf]; omega
    · have hk2 : k = l.length := by omega
      subst hk2
      go_wp2_with fail
      go_ret
      exact ⟨rfl, hBr.out⟩
end Go.Proofs.YtefohnbmifblkaaDoor
