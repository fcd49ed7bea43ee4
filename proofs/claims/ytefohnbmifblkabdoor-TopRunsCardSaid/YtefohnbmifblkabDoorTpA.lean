/-
  The walk of alive: a new detector answers.
-/
import Derived.Test.YtefohnbmifblkabDoorDoG
import Derived.Test.YtefohnbmifblkabDoorPlA
import Derived.Test.YtefohnbmifblkabDoorPlD
import Derived.Test.YtefohnbmifblkabDoorMem
import Derived.Test.YtefohnbmifblkabDoorRows
namespace Go.Proofs.YtefohnbmifblkabDoor
open Go.RowKit

theorem Gb.of {w : World} (h : Gl w) : Gb w.heap.size := ⟨lt_of_cell h.m0, lt_of_cell h.e0⟩
theorem okNew (h : Int) (h0 : 0 ≤ h) (h1 : h ≤ 6) : OkD (newDS h) :=
  ⟨h0, h1, by simp [newDS], by simp [newDS], by simp [newDS], by intro e _ _; simp [newDS], by simp [newDS], by simp [newDS]⟩

/-- the small text that alive feeds. -/
def sample : List UInt8 := [239, 187, 191, 97]
theorem alive_one : (doDS (newDS 0) 1 sample).2 = rp0 0 := rfl
theorem alive_two : (doDS (doDS (newDS 0) 1 sample).1 3 []).2 = ⟨0, (1, 1, true), [97]⟩ := by
  rfl

theorem find_nil : Pl.find [] = 0 := by rfl

set_option maxRecDepth 100000 in
set_option maxHeartbeats 4000000 in
theorem alive_any (w : World) (hg : Gl w) :
    Calls Tryd.prog 13 #[] w fun e w' => e = .returned (.bool true) ∧ Below w.heap.size w w' := by
  have HG := Lib.hid hg
  have HGb := Lib.hid (Gb.of hg)
  clear hg
  go_enter Tryd.func13, Tryd.ntmps13
  go_wp2_with fail
  refine (detNew_any ⟨#[]⟩ _ (by decide)).mono ?_
  rintro e1 w1 ⟨⟨b, rfl, hb0, hdet⟩, hb1⟩
  have hd1 : Det w.heap.size w1 b none (newDS 0) := hdet
  have HD1 := Lib.hid hd1
  have HB1 := Lib.hid hb1
  clear hdet hd1 hb1
  go_wp2_with fail
  refine (do_any w.heap.size b none (newDS 0) 1 ⟨#[239, 187, 191, 97]⟩ w1 HD1.out (okNew 0 (by omega) (by omega)) (HG.out.below HB1.out) HGb.out (by decide)).mono ?_
  rintro e2 w2 ⟨⟨v2, rfl, ho2⟩, ⟨o2, hd2, hm2⟩, hk2⟩
  obtain ⟨p2, cap2, rfl⟩ := own_form ho2
  rw [show (doDS (newDS 0) 1 (⟨#[239, 187, 191, 97]⟩ : ByteArray).data.toList).2 = rp0 0 from rfl]
  have HD2 := Lib.hid hd2
  have HK2 := Lib.hid (hk2.below HD1.out.low (fun n e => by cases e) HB1.out.size)
  clear ho2 hd2 hk2 hm2
  simp only [rpV, rp0]
  go_wp2_with fail
  have hd2b := HD2.out.lt
  have ho2b := HD2.out.own_lt
  obtain ⟨d1, hd1e⟩ : ∃ x, (doDS (newDS 0) 1 (⟨#[239, 187, 191, 97]⟩ : ByteArray).data.toList).1 = x := ⟨_, rfl⟩
  have hok1 : OkD d1 := by rw [← hd1e]; exact (okNew 0 (by omega) (by omega)).doDS _ _
  have hr3 : (doDS d1 3 []).2 = ⟨0, (1, 1, true), [97]⟩ := by rw [← hd1e]; exact alive_two
  have hD2 : Det w.heap.size w2 b o2 d1 := by rw [← hd1e]; exact HD2.out
  have hD2a := hD2.alloc (.cells #[.int .i64 0, .int .i64 0, .int .i64 0, .bool false, .slice p2 0 cap2] 34)
  have hB2 : Below w.heap.size w w2 := HB1.out.trans HK2.out
  refine (do_any w.heap.size b o2 d1 3 ⟨#[]⟩ (w2.alloc (.cells #[.int .i64 0, .int .i64 0, .int .i64 0, .bool false, .slice p2 0 cap2] 34)) hD2a hok1 (HG.out.below (hB2.alloc hB2.size _)) HGb.out (by decide)).mono ?_
  rintro e3 w3 ⟨⟨v3, rfl, ho3⟩, ⟨o3, hd3, hm3⟩, hk3⟩
  rw [show (doDS d1 3 (⟨#[]⟩ : ByteArray).data.toList).2 = ⟨0, (1, 1, true), [97]⟩ from hr3] at ho3 ⊢
  obtain ⟨g, cap3, rfl, hgb, hgl⟩ := World.ownsRow.form ho3 (by decide)
  have hg0 : w3.cell? ⟨g, 0, none⟩ = some (.int .i64 97) := ho3.cellAt 0 (by decide)
  have hx3 : w3.heap[w2.heap.size]? = some (.cells #[.int .i64 0, .int .i64 0, .int .i64 0, .bool false, .slice p2 0 cap2] 34 (0, 0)) := (hk3.block _ (by simp) (by omega) (fun e => by have := (ho2b _ e.symm).2; omega)).trans (heap_alloc_new w2 _)
  have fx : ∀ j, w3.cell? ⟨w2.heap.size, j, none⟩ = (#[.int .i64 0, .int .i64 0, .int .i64 0, .bool false, .slice p2 0 cap2] : Array Value)[j]? := fun j => cell_of_row w3 _ j _ _ _ hx3
  have fx0 : w3.cell? ⟨w2.heap.size, 0, none⟩ = some (.int .i64 0) := fx 0
  clear fx
  have hw23 : w2.heap.size < w3.heap.size := (Array.getElem?_eq_some_iff.1 hx3).1
  have HB3 := Lib.hid (hB2.alloc hB2.size (.cells #[.int .i64 0, .int .i64 0, .int .i64 0, .bool false, .slice p2 0 cap2] 34) |>.trans (hk3.below hD2a.low (fun n e => (hD2a.own_lt n e).1) (by simp; have := hB2.size; omega)))
  have hz3 := HB3.out.size
  clear hx3 hk3 hd3 hm3 ho3 hD2 hD2a hB2 ho2b hd2b hr3 hd1e
  simp only [rpV]
  go_wp2_with fail
  go_ret
  exact ⟨rfl, (HB3.out.alloc hz3 _)⟩
end Go.Proofs.YtefohnbmifblkabDoor

/-
  A detector at work, from call to call: what a Do leaves.
-/
namespace Go.Proofs.YtefohnbmifblkabDoor
open Go.RowKit

/-- in world wi, block b is a detector that is as d says; of what was there in w nothing has changed. -/
structure At (w : World) (b : Nat) (d : DS) (wi : World) : Prop where
  det : ∃ o, Det w.heap.size wi b o d
  ok : OkD d
  below : Below w.heap.size w wi

/-- blocks of other types than a detector's and its bytes' stay. -/
def Stay (wi w' : World) : Prop := ∀ (g : Nat) (cs : Array Value) (ty : TypeId) (fr : Nat × Nat), ty ≠ 5 → ty ≠ 56 → wi.heap[g]? = some (.cells cs ty fr) → w'.heap[g]? = some (.cells cs ty fr)

theorem At.alloc {w wi : World} {b : Nat} {d : DS} (h : At w b d wi) (x : Obj) : At w b d (wi.alloc x) := by
  obtain ⟨⟨o, hd⟩, ho, hb⟩ := h
  exact ⟨⟨o, hd.alloc x⟩, ho, hb.alloc hb.size x⟩
theorem At.next {w wi w2 : World} {b : Nat} {d : DS} (h : At w b d wi) (k : Below wi.heap.size wi w2) : At w b d w2 := by
  obtain ⟨⟨o, hd⟩, ho, hb⟩ := h
  exact ⟨⟨o, hd.below k (Nat.le_refl _)⟩, ho, hb.trans (k.mono hb.size)⟩

theorem keep_stay {base : Nat} {w w' : World} {b : Nat} {o : Option Nat} {d : DS} (hk : Keep w w' b o) (hd : Det base w b o d) : Stay w w' := by
  intro g cs ty fr h1 h2 hg
  have hlt := (Array.getElem?_eq_some_iff.1 hg).1
  obtain ⟨v, hv, hown, ho⟩ := hd.mem
  refine (hk.block g hlt ?_ ?_).trans hg
  · rintro rfl
    rw [hg] at hv
    injection hv with hv
    injection hv with _ e _
    exact h2 e
  · intro e
    rcases hown.2 with ⟨rfl, _⟩ | ⟨g2, cap, cur, rfl, _, hh, _⟩
    · rw [← ho] at e
      simp [Value.ownBlock] at e
    · have : g = g2 := by
        rw [← ho] at e
        simpa [Value.ownBlock] using e
      subst this
      rw [hg] at hh
      injection hh with hh
      injection hh with _ e2 _
      exact h1 e2

theorem do_at (w wi : World) (b : Nat) (d : DS) (k : Int) (bs : ByteArray) (h : At w b d wi) (hg : Gl w) (hs : bs.size ≤ maxLen) :
    Calls Tryd.prog 10 #[.pointer (some ⟨b, 0, none⟩), .agg #[.int .i64 k, .string bs]] wi fun e w' =>
      (∃ v, e = .returned (rpV (doDS d k bs.data.toList).2 v) ∧ w'.ownsRow wi.heap.size 3 1 v (doDS d k bs.data.toList).2.out.length (ints (doDS d k bs.data.toList).2.out)) ∧ At w b (doDS d k bs.data.toList).1 w' ∧ Stay wi w' ∧ wi.heap.size ≤ w'.heap.size := by
  obtain ⟨⟨o, hd⟩, ho, hb⟩ := h
  refine (do_any w.heap.size b o d k bs wi hd ho (hg.below hb) (Gb.of hg) hs).mono ?_
  rintro e w' ⟨hv, ⟨o', hd', _⟩, hk⟩
  exact ⟨hv, ⟨⟨o', hd'⟩, ho.doDS k _, hb.trans (hk.below hd.low (fun n e => (hd.own_lt n e).1) hb.size)⟩, keep_stay hk hd, hk.size⟩

theorem new_at (s : ByteArray) (w wi : World) (hb : Below w.heap.size w wi) (hs : s.size ≤ maxLen) :
    Calls Tryd.prog 22 #[.string s] wi fun e w' => (∃ b, e = .returned (.pointer (some ⟨b, 0, none⟩)) ∧ wi.heap.size ≤ b ∧ At w b (newDS (Pl.find s.data.toList)) w') ∧ Below wi.heap.size wi w' := by
  refine (detNew_any s wi hs).mono ?_
  rintro e w' ⟨⟨b, rfl, h1, hd⟩, h2⟩
  have hf := find_range s.data.toList
  have hz := hb.size
  refine ⟨⟨b, rfl, h1, ⟨none, ⟨by omega, ?_⟩⟩, okNew _ hf.1 hf.2, hb.trans (h2.mono hz)⟩, h2⟩
  obtain ⟨v, hv, hown, ho⟩ := hd.mem
  exact ⟨v, hv, World.ownsRow.mono hown hz, ho⟩
theorem Stay.below {w w' : World} (h : Below w.heap.size w w') : Stay w w' := fun g _ _ _ _ _ hg => (h.block g (Array.getElem?_eq_some_iff.1 hg).1).trans hg
theorem Stay.trans {a b c : World} (h : Stay a b) (k : Stay b c) : Stay a c := fun g cs ty fr h1 h2 hg => k g cs ty fr h1 h2 (h g cs ty fr h1 h2 hg)
end Go.Proofs.YtefohnbmifblkabDoor

/-
  Plain: what is final stays.
-/
namespace Go.Proofs.YtefohnbmifblkabDoor
open Go.RowKit

theorem doDS_feed (d : DS) (l : List UInt8) (ha : d.acts < 300) (he : d.ended = false) (hl : d.bs.length + l.length ≤ 4000) : doDS d 1 l = (fed d l, rp0 0) := by
  unfold doDS
  rw [if_neg (by omega), if_neg (by omega), if_neg (by omega), he, if_neg (by simp), if_neg (by omega), if_neg (by omega)]
theorem doDS_ask (d : DS) (l : List UInt8) (ha : d.acts < 300) : doDS d 2 l = (tick d, ⟨0, vd (tick d), []⟩) := by
  unfold doDS
  rw [if_neg (by omega), if_neg (by omega), if_pos rfl]
theorem doDS_finish (d : DS) (l : List UInt8) (ha : d.acts < 300) (he : d.ended = false) : doDS d 3 l = (fin d, ⟨0, vd (fin d), tell (vd (fin d)).1 d.bs⟩) := by
  unfold doDS
  rw [if_neg (by omega), if_neg (by omega), if_neg (by omega), he, if_neg (by simp), if_pos rfl]

/-- a final verdict is the verdict behind more bytes. -/
theorem vd_sure (d d' : DS) (t : List UInt8) (hb : d'.bs = d.bs ++ t) (hh : d'.hint = d.hint) (he : d.ended = false) (_he' : d'.ended = true) (hf : (vd d).2.2 = true) : vd d' = vd d := by
  by_cases hm : (Pl.mark d.bs).1 ≠ 0
  · have h1 := (Pl.mark_stays d.bs t (.inl hm)).1
    unfold vd
    rw [hb, h1, if_pos hm, if_pos hm]
  by_cases hq : Pl.mayMark d.bs = false
  · have h1 := Pl.mark_stays d.bs t (.inr hq)
    by_cases hz : d.hint ≠ 0
    · unfold vd
      rw [hb, h1.1, if_neg hm, if_neg hm, hh, if_pos hz, if_pos hz, h1.2, hq]
      simp
    · by_cases hl : (Pl.label d.bs).1 ≠ 0
      · have h2 := Pl.label_sure d.bs
        have h3 : Pl.label (d.bs ++ t) = Pl.label d.bs := Pl.label_stays d.bs t (by rcases h2 with h2 | h2; exact absurd h2 hl; exact h2)
        unfold vd
        rw [hb, h1.1, if_neg hm, if_neg hm, hh, if_neg hz, if_neg hz, h3, if_pos hl, if_pos hl, h1.2, hq]
        simp
      · unfold vd at hf
        rw [if_neg hm, if_neg hz, if_neg hl] at hf
        rw [he] at hf
        split at hf <;> simp at hf
  · unfold vd at hf
    have hq2 : Pl.mayMark d.bs = true := by simpa using hq
    rw [if_neg hm, he, hq2] at hf
    exfalso
    revert hf
    repeat' split
    all_goals simp

theorem sure_plain (h : Int) (s t : List UInt8) (hl : s.length + t.length ≤ 4000) (hf : (doDS (doDS (newDS h) 1 s).1 2 []).2.vd.2.2 = true) :
    (doDS (doDS (doDS (doDS (newDS h) 1 s).1 2 []).1 1 t).1 3 []).2.vd = (doDS (doDS (newDS h) 1 s).1 2 []).2.vd := by
  have e1 : doDS (newDS h) 1 s = (fed (newDS h) s, rp0 0) := doDS_feed _ _ (by simp [newDS]) rfl (by simp [newDS]; omega)
  rw [e1] at hf ⊢
  dsimp only at hf ⊢
  have e2 : doDS (fed (newDS h) s) 2 [] = (tick (fed (newDS h) s), ⟨0, vd (tick (fed (newDS h) s)), []⟩) := doDS_ask _ _ (by simp [fed, newDS])
  rw [e2] at hf ⊢
  dsimp only at hf ⊢
  have e3 : doDS (tick (fed (newDS h) s)) 1 t = (fed (tick (fed (newDS h) s)) t, rp0 0) := doDS_feed _ _ (by simp [tick, fed, newDS]) rfl (by simp [tick, fed, newDS]; omega)
  rw [e3]
  dsimp only
  have e4 : doDS (fed (tick (fed (newDS h) s)) t) 3 [] = (fin (fed (tick (fed (newDS h) s)) t), ⟨0, vd (fin (fed (tick (fed (newDS h) s)) t)), tell (vd (fin (fed (tick (fed (newDS h) s)) t))).1 (fed (tick (fed (newDS h) s)) t).bs⟩) := doDS_finish _ _ (by simp [tick, fed, newDS]) rfl
  rw [e4]
  exact vd_sure (tick (fed (newDS h) s)) (fin (fed (tick (fed (newDS h) s)) t)) t rfl rfl rfl rfl hf
end Go.Proofs.YtefohnbmifblkabDoor

/-
  Plain: the same bytes in whatever parts; a mark in front.
-/
namespace Go.Proofs.YtefohnbmifblkabDoor
open Go.RowKit

/-- two detectors that differ in the number of acts alone. -/
structure EqA (d d' : DS) : Prop where
  hint : d.hint = d'.hint
  bs : d.bs = d'.bs
  sc : d.sc = d'.sc
  last : d.last = d'.last
  ended : d.ended = d'.ended
theorem EqA.refl (d : DS) : EqA d d := ⟨rfl, rfl, rfl, rfl, rfl⟩
theorem EqA.trans {a b c : DS} (h : EqA a b) (k : EqA b c) : EqA a c := ⟨h.hint.trans k.hint, h.bs.trans k.bs, h.sc.trans k.sc, h.last.trans k.last, h.ended.trans k.ended⟩
theorem EqA.symm {a b : DS} (h : EqA a b) : EqA b a := ⟨h.hint.symm, h.bs.symm, h.sc.symm, h.last.symm, h.ended.symm⟩
theorem EqA.vd {a b : DS} (h : EqA a b) : vd a = vd b := by
  unfold Go.Proofs.YtefohnbmifblkabDoor.vd
  rw [h.bs, h.hint, h.sc, h.ended]
theorem eqA_tick (d : DS) : EqA (tick d) d := ⟨rfl, rfl, rfl, rfl, rfl⟩
theorem EqA.fed {a b : DS} (h : EqA a b) (l : List UInt8) : EqA (fed a l) (fed b l) := by
  refine ⟨h.hint, ?_, ?_, ?_, h.ended⟩
  · show a.bs ++ l = b.bs ++ l
    rw [h.bs]
  · show (feedSc a.sc a.last l).1 = (feedSc b.sc b.last l).1
    rw [h.sc, h.last]
  · show (feedSc a.sc a.last l).2 = (feedSc b.sc b.last l).2
    rw [h.sc, h.last]
theorem EqA.fin {a b : DS} (h : EqA a b) : EqA (fin a) (fin b) := ⟨h.hint, h.bs, h.sc, h.last, rfl⟩
theorem feedSc_app : ∀ (l k : List UInt8) (sc : Nat → Int) (last : Int), feedSc sc last (l ++ k) = feedSc (feedSc sc last l).1 (feedSc sc last l).2 k
  | [], _, _, _ => rfl
  | c :: l, k, sc, last => feedSc_app l k (scNext sc last (Pl.byte c)) (Pl.byte c)
theorem fed_app (d : DS) (l k : List UInt8) : EqA (fed (fed d l) k) (fed d (l ++ k)) := by
  refine ⟨rfl, ?_, ?_, ?_, rfl⟩
  · show (d.bs ++ l) ++ k = d.bs ++ (l ++ k)
    rw [List.append_assoc]
  · show (feedSc (feedSc d.sc d.last l).1 (feedSc d.sc d.last l).2 k).1 = (feedSc d.sc d.last (l ++ k)).1
    rw [feedSc_app]
  · show (feedSc (feedSc d.sc d.last l).1 (feedSc d.sc d.last l).2 k).2 = (feedSc d.sc d.last (l ++ k)).2
    rw [feedSc_app]
theorem fed_nil (d : DS) : EqA (fed d []) d := ⟨rfl, List.append_nil _, rfl, rfl, rfl⟩

/-- the end's reply is the same. -/
theorem finish_same {a b : DS} (h : EqA a b) (ha : a.acts < 300) (hb : b.acts < 300) (he : a.ended = false) : (doDS a 3 []).2 = (doDS b 3 []).2 := by
  rw [doDS_finish a [] ha he, doDS_finish b [] hb (h.ended.symm.trans he)]
  show (⟨0, vd (fin a), tell (vd (fin a)).1 a.bs⟩ : Rp) = ⟨0, vd (fin b), tell (vd (fin b)).1 b.bs⟩
  rw [h.fin.vd, h.bs]

/-- byte by byte. -/
def fedAll : DS → List UInt8 → DS
  | d, [] => d
  | d, c :: l => fedAll (fed d [c]) l
theorem fedAll_same : ∀ (l : List UInt8) (d : DS), EqA (fedAll d l) (fed d l)
  | [], d => (fed_nil d).symm
  | c :: l, d => by
    have h1 := fedAll_same l (fed d [c])
    have h2 := fed_app d [c] l
    exact h1.trans h2
theorem fedAll_acts : ∀ (l : List UInt8) (d : DS), (fedAll d l).acts = d.acts + l.length
  | [], d => by simp [fedAll]
  | c :: l, d => by
    show (fedAll (fed d [c]) l).acts = _
    rw [fedAll_acts l]
    show d.acts + 1 + (l.length : Int) = _
    rw [List.length_cons]
    omega

/-- the marks. -/
def markOf (e : Int) : List UInt8 := if e = 1 then [239, 187, 191] else if e = 5 then [255, 254] else [254, 255]
theorem mark_front (e : Int) (he : e = 1 ∨ e = 5 ∨ e = 6) (l : List UInt8) : Pl.mark (markOf e ++ l) = (e, ((markOf e).length : Int)) := by
  rcases he with rfl | rfl | rfl <;> simp [Pl.mark, markOf]
theorem tell_front (e : Int) (he : e = 1 ∨ e = 5 ∨ e = 6) (l : List UInt8) : tell e (markOf e ++ l) = Pl.dWhole e l := by
  unfold tell
  rw [mark_front e he l, if_pos rfl]
  congr 1
  simp
theorem tell_front_len (e : Int) (he : e = 1 ∨ e = 5 ∨ e = 6) (l : List UInt8) : (tell e (markOf e ++ l)).length ≤ l.length := by
  rw [tell_front e he l]
  exact Pl.whole_len e he l
end Go.Proofs.YtefohnbmifblkabDoor

/-
  The verdict out of a reply.
-/
namespace Go.Proofs.YtefohnbmifblkabDoor
open Go.RowKit

theorem field_vd (cd x y : Int) (f : Bool) (v : Value) (W : World) : (Instr.field 34 (.agg #[.int .i64 cd, .int .i64 x, .int .i64 y, .bool f, v]) 1).run Tryd.prog W = .ok (.agg #[.int .i64 x, .int .i64 y, .bool f]) W := by
  have hI : (Tryd.prog.info? 31).map (fun i => i.size) = some 3 := by kernel_rfl
  obtain ⟨i, hi, h3⟩ := Option.map_eq_some_iff.1 hI
  have hU := Tryd.underlying34
  have hV := Tryd.underlying31
  simp [Instr.field, run_underlying hU, run_underlying hV, asAgg, part, isAgg, sizeOf, typeInfo, hi, h3]
end Go.Proofs.YtefohnbmifblkabDoor
