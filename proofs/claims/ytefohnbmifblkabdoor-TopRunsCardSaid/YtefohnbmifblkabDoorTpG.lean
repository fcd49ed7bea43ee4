/-
  The walk of play: acts at a new detector, each looked at by a function that is handed in.
-/
import Derived.Test.YtefohnbmifblkabDoorTpE
import Derived.Deep.RegionWith
namespace Go.Proofs.YtefohnbmifblkabDoor
open Go.RowKit
attribute [local go_sem ↓] Go.wp_at_zero Go.wp_at_succ

theorem At.drew {w wi : World} {b : Nat} {d : DS} (h : At w b d wi) : At w b d wi.drew := h.next (below_drewN (Below.refl _ wi) 1)
theorem stay_drew (w : World) : Stay w w.drew := fun _ _ _ _ _ _ hg => hg
theorem own_drew {w : World} {base : Nat} {e : TypeId} {s n : Nat} {v : Value} {xs : List Value} (h : w.ownsRow base e s v n xs) : w.drew.ownsRow base e s v n xs := h

theorem Drew.stay {w w' : World} (h : Drew w w') : Stay w w' := fun _ _ _ _ _ _ hg => by rw [h.heap]; exact hg
theorem Drew.at_ {w wi w2 : World} {b : Nat} {d : DS} (h : At w b d wi) (k : Drew wi w2) : At w b d w2 := h.next k.below
theorem Drew.owns {w w' : World} (h : Drew w w') {base : Nat} {e : TypeId} {s n : Nat} {v : Value} {xs : List Value} (k : w.ownsRow base e s v n xs) : w'.ownsRow base e s v n xs := by
  obtain ⟨m, rfl⟩ := h
  exact k
/-- what is asked of the function that looks: after act k, at the detector as it is then and at the reply, it says yes, and J holds on. -/
def Looks (w : World) (d0 : DS) (l : List Ac) (g : Nat) (lb : Array Value) (J : Nat → World → Prop) : Prop :=
  ∀ (k : Nat) (a : Ac) (W : World) (b : Nat) (u : Value) (base : Nat), l[k]? = some a → k < 100 → J k W → At w b (act (runA d0 (l.take k)) a) W →
    W.ownsRow base 3 1 u (doDS (runA d0 (l.take k)) a.1 a.2.data.toList).2.out.length (ints (doDS (runA d0 (l.take k)) a.1 a.2.data.toList).2.out) →
    Calls Tryd.prog g (#[.pointer (some ⟨b, 0, none⟩), .agg #[.int .i64 a.1, .string a.2], rpV (doDS (runA d0 (l.take k)) a.1 a.2.data.toList).2 u] ++ lb) W fun e w' => e = .returned (.bool true) ∧ J (k + 1) w' ∧ At w b (act (runA d0 (l.take k)) a) w'

set_option maxRecDepth 100000 in
set_option maxHeartbeats 4000000 in
theorem play_any (w w1 : World) (hint : ByteArray) (v : Value) (l : List Ac) (g : Nat) (lb : Array Value) (J : Nat → World → Prop) (eg : ∀ args W, (callFunc g args).run Tryd.prog W = .ok (.enter g args) W)
    (hb : Below w.heap.size w w1) (hg : Gl w) (hh : hint.size ≤ maxLen) (hl : Acts w v l) (hJs : ∀ k W W', J k W → Stay W W' → J k W') (hL : Looks w (newDS (Pl.find hint.data.toList)) l g lb J) (h0 : J 0 w1) :
    Calls Tryd.prog 8 #[.string hint, v, .func (.func g) #[] lb] w1 fun e w' =>
      ∃ b, e = .returned (.tuple #[.pointer (some ⟨b, 0, none⟩), .bool true]) ∧ At w b (runA (newDS (Pl.find hint.data.toList)) (l.take 100)) w' ∧ J (min l.length 100) w' := by
  have HG := Lib.hid hg
  have HH := Lib.hid hh
  have HB := Lib.hid hb
  have HL := Lib.hid hL
  have HS := Lib.hid hJs
  have HJ := Lib.hid h0
  have HA := Lib.hid hl
  obtain ⟨a, c, rfl, hlen, hsz, hcs⟩ := hl
  unfold maxLen at hlen
  clear hg hh hb hL hJs h0
  obtain ⟨d0, hd0⟩ : ∃ x, newDS (Pl.find hint.data.toList) = x := ⟨_, rfl⟩
  have HD0 := Lib.hid hd0
  rw [hd0] at HL ⊢
  clear hd0
  go_enter Tryd.func8, Tryd.ntmps8
  go_wp2_with fail
  refine (alive_any _ (HG.out.below HB.out)).mono ?_
  rintro e2 w2 ⟨rfl, hb2⟩
  have HB2 := Lib.hid (HB.out.trans (hb2.mono HB.out.size))
  have HJ2 := Lib.hid (HS.out 0 _ _ HJ.out (Stay.below hb2))
  clear hb2
  go_wp2_with fail
  refine (new_at hint w w2 HB2.out HH.out).mono ?_
  rintro e3 w3 ⟨⟨b, rfl, hb3, hA3⟩, hbl3⟩
  rw [show newDS (Pl.find hint.data.toList) = d0 from HD0.out] at hA3
  have HA3 := Lib.hid hA3
  have HJ3 := Lib.hid (HS.out 0 _ _ HJ2.out (Stay.below hbl3))
  clear hA3 hbl3 hb3
  go_wp2_with fail
  go_loopw [9] (fun i wr => ∃ k : Nat, k ≤ l.length ∧ k ≤ 100 ∧ i = .int .i64 k ∧ Aside (At w b (runA d0 (l.take k)) wr) ∧ Aside (J k wr)) (fun i _ => 200 - (intOf i).toNat)
  case atStart => exact ⟨0, by omega, by omega, rfl, HA3.out, HJ3.out⟩
  case round =>
    obtain ⟨k, hk, hk1, rfl, hAt, hJk⟩ := hrel
    by_cases hlt : k < l.length
    · have hlt2 : (k : Int) < (l.length : Int) := by omega
      by_cases h100 : k < 100
      · have h1002 : (k : Int) < 100 := by omega
        obtain ⟨x, hx⟩ : ∃ x, l[k]? = some x := ⟨_, List.getElem?_eq_getElem hlt⟩
        have hxs : x.2.size ≤ maxLen := hsz x (List.mem_of_getElem? hx)
        rcases hcs with rfl | ⟨g', off, rfl, hcs⟩
        · simp at hlt
        have hgl := lt_of_cell (hcs k x hx).1
        have hbw := hAt.out.below
        have c1 : wr.cell? ⟨g', off + k * 2, none⟩ = some (.int .i64 x.1) := (hbw.cell (p := ⟨g', _, none⟩) hgl).trans (hcs k x hx).1
        have c2 : wr.cell? ⟨g', off + k * 2 + 1, none⟩ = some (.string x.2) := (hbw.cell (p := ⟨g', _, none⟩) hgl).trans (hcs k x hx).2
        have HX := Lib.hid hx
        have HXS := Lib.hid hxs
        have HCS := Lib.hid hcs
        have HSZ := Lib.hid hsz
        clear hx hxs hcs hsz
        go_wp2_with fail
        refine (do_at w wr b (runA d0 (l.take k)) x.1 x.2 hAt.out HG.out HXS.out).mono ?_
        rintro e4 w4 ⟨⟨u, rfl, ho4⟩, hA4, hSt4, hz4⟩
        have HJ4 := Lib.hid (HS.out k _ _ hJk.out hSt4)
        have HA4 := Lib.hid hA4
        have HO4 := Lib.hid ho4
        obtain ⟨r, hr⟩ : ∃ r, (doDS (runA d0 (l.take k)) x.1 x.2.data.toList).2 = r := ⟨_, rfl⟩
        obtain ⟨p4, n4, rfl⟩ := own_form ho4
        rw [hr]
        obtain ⟨cd, ⟨x4, y4, f4⟩, out4⟩ := r
        have HR := Lib.hid hr
        clear hA4 ho4 hr hSt4
        simp only [rpV]
        go_wp2_with fail
        have hz : (w4.alloc (.cells #[.int .i64 cd, .int .i64 x4, .int .i64 y4, .bool f4, .slice p4 out4.length n4] 34)).heap[w4.heap.size]? = some (.cells #[.int .i64 cd, .int .i64 x4, .int .i64 y4, .bool f4, .slice p4 out4.length n4] 34 (0, 0)) := heap_alloc_new w4 _
        have hbel : Below w4.heap.size w4 (w4.alloc (.cells #[.int .i64 cd, .int .i64 x4, .int .i64 y4, .bool f4, .slice p4 out4.length n4] 34)) := (Below.refl _ _).alloc (Nat.le_refl _) _
        have hAW := HA4.out.next hbel
        have hJW := HS.out k _ _ HJ4.out (Stay.below hbel)
        have hOW := own_stay HO4.out (Stay.below hbel)
        generalize w4.heap.size = z at hz ⊢
        generalize World.alloc _ _ = W at hz hAW hJW hOW ⊢
        have hbW := hAW.below
        have d1 : W.cell? ⟨g', off + k * 2, none⟩ = some (.int .i64 x.1) := (hbW.cell (p := ⟨g', _, none⟩) hgl).trans (HCS.out k x HX.out).1
        have d2 : W.cell? ⟨g', off + k * 2 + 1, none⟩ = some (.string x.2) := (hbW.cell (p := ⟨g', _, none⟩) hgl).trans (HCS.out k x HX.out).2
        have f0 : W.cell? ⟨z, 0, none⟩ = some (.int .i64 cd) := cell_of_row W z 0 _ _ _ hz
        have f1 : W.cell? ⟨z, 1, none⟩ = some (.int .i64 x4) := cell_of_row W z 1 _ _ _ hz
        have f2 : W.cell? ⟨z, 2, none⟩ = some (.int .i64 y4) := cell_of_row W z 2 _ _ _ hz
        have f3 : W.cell? ⟨z, 3, none⟩ = some (.bool f4) := cell_of_row W z 3 _ _ _ hz
        have f5 : W.cell? ⟨z, 4, none⟩ = some (.slice p4 out4.length n4) := cell_of_row W z 4 _ _ _ hz
        have HC : Hid (∀ W', Drew W W' → Calls Tryd.prog g (#[.pointer (some ⟨b, 0, none⟩), .agg #[.int .i64 x.1, .string x.2], .agg #[.int .i64 cd, .int .i64 x4, .int .i64 y4, .bool f4, .slice p4 out4.length n4]] ++ lb) W' fun e w' => e = .returned (.bool true) ∧ J (k + 1) w' ∧ At w b (act (runA d0 (l.take k)) x) w') := Lib.hid fun W' hW => by
          have h := HL.out k x W' b _ _ HX.out h100 (HS.out k _ _ hJW hW.stay) (hW.at_ hAW) (hW.owns hOW)
          rw [show (doDS (runA d0 (l.take k)) x.1 x.2.data.toList).2 = _ from HR.out] at h
          exact h
        clear c1 c2 hz hbel hAW hJW hOW hbW hbw hAt hJk HA4 HJ4 HO4 HR hz4
        go_region_with
          (first
            | (go_at_fn g
               refine (HC.out _ (by first | exact (Drew.refl W).drew | exact Drew.refl W | exact ⟨_, rfl⟩)).mono ?_
               rintro e5 w5 ⟨rfl, hJ5, hA5⟩
               have HJ5 := Lib.hid hJ5
               have HA5 := Lib.hid hA5
               clear hJ5 hA5))
        all_goals
          clear d1 d2 f0 f1 f2 f3 f5
          go_wp2_with fail
          go_roundw
          case rel =>
            refine ⟨k + 1, by omega, by omega, by go_num, ?_, HJ5.out⟩
            have h := HA5.out
            rw [← runA_succ d0 l k x HX.out] at h
            exact h
          case measure => simp [intOf]; omega
      · have hk2 : k = 100 := by omega
        subst hk2
        go_wp2_with fail
        refine bodyPost_ret (by simp [results, Tryd.results8, go_sem]; rfl) rfl ?_
        refine ⟨b, rfl, hAt.out, ?_⟩
        rw [Nat.min_eq_right (by omega)]
        exact hJk.out
    · have hk2 : k = l.length := by omega
      subst hk2
      go_wp2_with fail
      refine bodyPost_ret (by simp [results, Tryd.results8, go_sem]; rfl) rfl ?_
      refine ⟨b, rfl, ?_, ?_⟩
      · have h := hAt.out
        rw [List.take_length] at h
        rw [List.take_of_length_le (by omega)]
        exact h
      · rw [Nat.min_eq_left (by omega)]
        exact hJk.out
end Go.Proofs.YtefohnbmifblkabDoor
