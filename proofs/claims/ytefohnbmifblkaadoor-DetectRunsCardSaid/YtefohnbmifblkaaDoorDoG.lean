/-
  detect.Do at every act: it does what doDS says; a good detector stays good.
-/
import Derived.Test.YtefohnbmifblkaaDoorDoF
import Derived.Test.YtefohnbmifblkaaDoorPlA
import Derived.Test.YtefohnbmifblkaaDoorPlD
import Derived.Test.YtefohnbmifblkaaDoorMem
import Derived.Test.YtefohnbmifblkaaDoorRows
namespace Go.Proofs.YtefohnbmifblkaaDoor
open Go.RowKit

theorem look_range (t : List UInt8) : ∀ l : List (List UInt8 × Int), (∀ p ∈ l, 0 ≤ p.2 ∧ p.2 ≤ 6) → 0 ≤ Pl.look t l ∧ Pl.look t l ≤ 6
  | [], _ => by simp [Pl.look]
  | p :: r, h => by
    unfold Pl.look
    split
    · exact h p (by simp)
    · exact look_range t r fun q hq => h q (by simp [hq])
theorem find_range (s : List UInt8) : 0 ≤ Pl.find s ∧ Pl.find s ≤ 6 := by
  unfold Pl.find
  split
  · simp
  · exact look_range _ _ (by decide)
theorem labelIn_range (whole : Bool) : ∀ s : List UInt8, 0 ≤ (Pl.labelIn whole s).1 ∧ (Pl.labelIn whole s).1 ≤ 6
  | [] => by simp [Pl.labelIn]
  | b :: r => by
    have h := find_range (Pl.value ((b :: r).drop 8)).1
    have ih := labelIn_range whole r
    unfold Pl.labelIn
    repeat' split
    all_goals first
      | exact ih
      | exact h
      | simp
theorem bestTo_range (sc : Nat → Int) : bestTo sc 6 ≤ 6 := bestTo_le sc 6

/-- a good detector. -/
structure OkD (d : DS) : Prop where
  h0 : 0 ≤ d.hint
  h1 : d.hint ≤ 6
  a0 : 0 ≤ d.acts
  a1 : d.acts ≤ 300
  len : d.bs.length ≤ 4000
  sc : ScB d.bs.length d.sc
  l0 : -1 ≤ d.last
  l1 : d.last ≤ 255

theorem mark_range (l : List UInt8) : (Pl.mark l).1 = 0 ∨ (1 ≤ (Pl.mark l).1 ∧ (Pl.mark l).1 ≤ 6) := by
  unfold Pl.mark
  repeat' split
  all_goals simp
theorem label_range (l : List UInt8) : 0 ≤ (Pl.label l).1 ∧ (Pl.label l).1 ≤ 6 := by
  unfold Pl.label
  first
    | exact labelIn_range _ _
    | (split <;> exact labelIn_range _ _)
theorem vd_range (d : DS) (h0 : 0 ≤ d.hint) (h1 : d.hint ≤ 6) : 1 ≤ (vd d).1 ∧ (vd d).1 ≤ 6 := by
  have hm := mark_range d.bs
  have hl := label_range d.bs
  have hb := bestTo_range d.sc
  unfold vd
  split
  · dsimp only
    omega
  split
  · dsimp only
    omega
  split
  · dsimp only
    omega
  split
  · dsimp only
    omega
  · dsimp only
    omega

theorem byte_range (c : UInt8) : 0 ≤ Pl.byte c ∧ Pl.byte c ≤ 255 := by
  have := c.toNat_lt
  unfold Pl.byte
  omega
theorem feedSc_ok : ∀ (l : List UInt8) (sc : Nat → Int) (last n : Int), 0 ≤ n → ScB n sc → -1 ≤ last → last ≤ 255 → ScB (n + l.length) (feedSc sc last l).1 ∧ -1 ≤ (feedSc sc last l).2 ∧ (feedSc sc last l).2 ≤ 255
  | [], sc, last, n, _, h, h0, h1 => by
    refine ⟨?_, h0, h1⟩
    simpa [feedSc] using h
  | c :: l, sc, last, n, hn, h, h0, h1 => by
    have hc := byte_range c
    have ih := feedSc_ok l (scNext sc last (Pl.byte c)) (Pl.byte c) (n + 1) (by omega) (h.next hn _ _) (by omega) hc.2
    have e : n + ((c :: l).length : Int) = n + 1 + (l.length : Int) := by rw [List.length_cons]; omega
    rw [e]
    exact ih

theorem OkD.tick {d : DS} (h : OkD d) (ha : d.acts < 300) : OkD (tick d) := ⟨h.h0, h.h1, by have := h.a0; show 0 ≤ d.acts + 1; omega, by show d.acts + 1 ≤ 300; omega, h.len, h.sc, h.l0, h.l1⟩
theorem OkD.fin {d : DS} (h : OkD d) (ha : d.acts < 300) : OkD (fin d) := ⟨h.h0, h.h1, by have := h.a0; show 0 ≤ d.acts + 1; omega, by show d.acts + 1 ≤ 300; omega, h.len, h.sc, h.l0, h.l1⟩
theorem OkD.fed {d : DS} (h : OkD d) (ha : d.acts < 300) (l : List UInt8) (hl : d.bs.length + l.length ≤ 4000) : OkD (fed d l) := by
  have hs := feedSc_ok l d.sc d.last d.bs.length (by omega) h.sc h.l0 h.l1
  refine ⟨h.h0, h.h1, by have := h.a0; show 0 ≤ d.acts + 1; omega, by show d.acts + 1 ≤ 300; omega, ?_, ?_, hs.2.1, hs.2.2⟩
  · show (d.bs ++ l).length ≤ 4000
    rw [List.length_append]
    exact hl
  · show ScB ((d.bs ++ l).length : Int) (feedSc d.sc d.last l).1
    rw [List.length_append]
    have := hs.1
    simpa using this
theorem OkD.doDS {d : DS} (h : OkD d) (k : Int) (l : List UInt8) : OkD (doDS d k l).1 := by
  unfold Go.Proofs.YtefohnbmifblkaaDoor.doDS
  split
  · exact h
  · rename_i ha
    have ha : d.acts < 300 := by omega
    split
    · exact h.tick ha
    split
    · exact h.tick ha
    split
    · exact h.tick ha
    split
    · exact h.fin ha
    split
    · exact h.tick ha
    · rename_i hl
      exact h.fed ha l (by omega)

theorem do_any (base b : Nat) (o : Option Nat) (d : DS) (k : Int) (bs : ByteArray) (w : World) (hdet : Det base w b o d) (hok : OkD d) (hg : Gl w) (hgb : Gb base) (hs : bs.size ≤ maxLen) :
    Calls Tryd.prog 24 #[.pointer (some ⟨b, 0, none⟩), .agg #[.int .i64 k, .string bs]] w fun e w' => AnsD base w b o (doDS d k bs.data.toList).1 (doDS d k bs.data.toList).2 e w' := by
  have hbl : bs.data.toList.length = bs.size := by simp
  unfold doDS
  by_cases ha : 300 ≤ d.acts
  · rw [if_pos ha]
    exact do_full base b o d k bs w hdet ha
  have ha2 : d.acts < 300 := by omega
  rw [if_neg ha]
  by_cases hk : k < 1 ∨ 3 < k
  · rw [if_pos hk]
    exact do_kind base b o d k bs w hdet hok.a0 ha2 hk
  rw [if_neg hk]
  by_cases hk2 : k = 2
  · rw [if_pos hk2]
    subst hk2
    exact do_ask base b o d bs w hdet hok.a0 ha2 hg hgb hok.len
  rw [if_neg hk2]
  by_cases he : d.ended = true
  · rw [if_pos he]
    exact do_ended base b o d k bs w hdet hok.a0 ha2 (by omega) (by omega) hk2 he
  have he2 : d.ended = false := by simpa using he
  rw [if_neg he]
  by_cases hk3 : k = 3
  · rw [if_pos hk3]
    subst hk3
    exact do_finish base b o d bs w hdet hok.a0 ha2 he2 (vd_range _ hok.h0 hok.h1) hg hgb hok.len
  rw [if_neg hk3]
  have hk1 : k = 1 := by omega
  subst hk1
  rw [hbl]
  by_cases hl : 4000 < d.bs.length + bs.size
  · rw [if_pos hl]
    exact do_long base b o d 1 bs w hdet hok.a0 ha2 rfl he2 hok.len hs hl
  · rw [if_neg hl]
    exact do_feed base b o d bs w hdet hok.a0 ha2 he2 (by omega) hok.sc hok.l0 hok.l1
end Go.Proofs.YtefohnbmifblkaaDoor

/-
  The walk of alive: a new detector answers.
-/
namespace Go.Proofs.YtefohnbmifblkaaDoor
open Go.RowKit

theorem Gb.of {w : World} (h : Gl w) : Gb w.heap.size := ⟨lt_of_cell h.m0, lt_of_cell h.e0⟩
theorem okNew (h : Int) (h0 : 0 ≤ h) (h1 : h ≤ 6) : OkD (newDS h) :=
  ⟨h0, h1, by simp [newDS], by simp [newDS], by simp [newDS], by intro e _ _; simp [newDS], by simp [newDS], by simp [newDS]⟩

/-- the small text that alive feeds. -/
def sample : List UInt8 := [239, 187, 191, 97]
theorem alive_one : (doDS (newDS 0) 1 sample).2 = rp0 0 := rfl
theorem alive_two : (doDS (doDS (newDS 0) 1 sample).1 3 []).2 = ⟨0, (1, 1, true), [97]⟩ := by
  rfl

theorem find_nil : Pl.find [] = 0 := by rfl

set_option maxRecDepth 100000 in
set_option maxHeartbeats 4000000 in
theorem alive_any (w : World) (hg : Gl w) :
    Calls Tryd.prog 26 #[] w fun e w' => e = .returned (.bool true) ∧ Below w.heap.size w w' := by
  have HG := Lib.hid hg
  have HGb := Lib.hid (Gb.of hg)
  clear hg
  go_enter Tryd.func26, Tryd.ntmps26
  go_wp2_with fail
  refine (detNew_any ⟨#[]⟩ _ (by decide)).mono ?_
  rintro e1 w1 ⟨⟨b, rfl, hb0, hdet⟩, hb1⟩
  have hd1 : Det w.heap.size w1 b none (newDS 0) := hdet
  have HD1 := Lib.hid hd1
  have HB1 := Lib.hid hb1
  clear hdet hd1 hb1
  go_wp2_with fail
  refine (do_any w.heap.size b none (newDS 0) 1 ⟨#[239, 187, 191, 97]⟩ w1 HD1.out (okNew 0 (by omega) (by omega)) (HG.out.below HB1.out) HGb.out (by decide)).mono ?_
  rintro e2 w2 ⟨⟨v2, rfl, ho2⟩, ⟨o2, hd2, hm2⟩, hk2⟩
  obtain ⟨p2, cap2, rfl⟩ := own_form ho2
  rw [show (doDS (newDS 0) 1 (⟨#[239, 187, 191, 97]⟩ : ByteArray).data.toList).2 = rp0 0 from rfl]
  have HD2 := Lib.hid hd2
  have HK2 := Lib.hid (hk2.below HD1.out.low (fun n e => by cases e) HB1.out.size)
  clear ho2 hd2 hk2 hm2
  simp only [rpV, rp0]
  go_wp2_with fail
  have hd2b := HD2.out.lt
  have ho2b := HD2.out.own_lt
  obtain ⟨d1, hd1e⟩ : ∃ x, (doDS (newDS 0) 1 (⟨#[239, 187, 191, 97]⟩ : ByteArray).data.toList).1 = x := ⟨_, rfl⟩
  have hok1 : OkD d1 := by rw [← hd1e]; exact (okNew 0 (by omega) (by omega)).doDS _ _
  have hr3 : (doDS d1 3 []).2 = ⟨0, (1, 1, true), [97]⟩ := by rw [← hd1e]; exact alive_two
  have hD2 : Det w.heap.size w2 b o2 d1 := by rw [← hd1e]; exact HD2.out
  have hD2a := hD2.alloc (.cells #[.int .i64 0, .int .i64 0, .int .i64 0, .bool false, .slice p2 0 cap2] 38)
  have hB2 : Below w.heap.size w w2 := HB1.out.trans HK2.out
  refine (do_any w.heap.size b o2 d1 3 ⟨#[]⟩ (w2.alloc (.cells #[.int .i64 0, .int .i64 0, .int .i64 0, .bool false, .slice p2 0 cap2] 38)) hD2a hok1 (HG.out.below (hB2.alloc hB2.size _)) HGb.out (by decide)).mono ?_
  rintro e3 w3 ⟨⟨v3, rfl, ho3⟩, ⟨o3, hd3, hm3⟩, hk3⟩
  rw [show (doDS d1 3 (⟨#[]⟩ : ByteArray).data.toList).2 = ⟨0, (1, 1, true), [97]⟩ from hr3] at ho3 ⊢
  obtain ⟨g, cap3, rfl, hgb, hgl⟩ := World.ownsRow.form ho3 (by decide)
  have hg0 : w3.cell? ⟨g, 0, none⟩ = some (.int .i64 97) := ho3.cellAt 0 (by decide)
  have hx3 : w3.heap[w2.heap.size]? = some (.cells #[.int .i64 0, .int .i64 0, .int .i64 0, .bool false, .slice p2 0 cap2] 38 (0, 0)) := (hk3.block _ (by simp) (by omega) (fun e => by have := (ho2b _ e.symm).2; omega)).trans (heap_alloc_new w2 _)
  have fx : ∀ j, w3.cell? ⟨w2.heap.size, j, none⟩ = (#[.int .i64 0, .int .i64 0, .int .i64 0, .bool false, .slice p2 0 cap2] : Array Value)[j]? := fun j => cell_of_row w3 _ j _ _ _ hx3
  have fx0 : w3.cell? ⟨w2.heap.size, 0, none⟩ = some (.int .i64 0) := fx 0
  clear fx
  have hw23 : w2.heap.size < w3.heap.size := (Array.getElem?_eq_some_iff.1 hx3).1
  have HB3 := Lib.hid (hB2.alloc hB2.size (.cells #[.int .i64 0, .int .i64 0, .int .i64 0, .bool false, .slice p2 0 cap2] 38) |>.trans (hk3.below hD2a.low (fun n e => (hD2a.own_lt n e).1) (by simp; have := hB2.size; omega)))
  have hz3 := HB3.out.size
  clear hx3 hk3 hd3 hm3 ho3 hD2 hD2a hB2 ho2b hd2b hr3 hd1e
  simp only [rpV]
  go_wp2_with fail
  go_ret
  exact ⟨rfl, (HB3.out.alloc hz3 _)⟩
end Go.Proofs.YtefohnbmifblkaaDoor

/-
  A detector at work, from call to call: what a Do leaves.
-/
namespace Go.Proofs.YtefohnbmifblkaaDoor
open Go.RowKit

/-- in world wi, block b is a detector that is as d says; of what was there in w nothing has changed. -/
structure At (w : World) (b : Nat) (d : DS) (wi : World) : Prop where
  det : ∃ o, Det w.heap.size wi b o d
  ok : OkD d
  below : Below w.heap.size w wi

/-- blocks of other types than a detector's and its bytes' stay. -/
def Stay (wi w' : World) : Prop := ∀ (g : Nat) (cs : Array Value) (ty : TypeId) (fr : Nat × Nat), ty ≠ 5 → ty ≠ 75 → wi.heap[g]? = some (.cells cs ty fr) → w'.heap[g]? = some (.cells cs ty fr)

theorem At.alloc {w wi : World} {b : Nat} {d : DS} (h : At w b d wi) (x : Obj) : At w b d (wi.alloc x) := by
  obtain ⟨⟨o, hd⟩, ho, hb⟩ := h
  exact ⟨⟨o, hd.alloc x⟩, ho, hb.alloc hb.size x⟩
theorem At.next {w wi w2 : World} {b : Nat} {d : DS} (h : At w b d wi) (k : Below wi.heap.size wi w2) : At w b d w2 := by
  obtain ⟨⟨o, hd⟩, ho, hb⟩ := h
  exact ⟨⟨o, hd.below k (Nat.le_refl _)⟩, ho, hb.trans (k.mono hb.size)⟩

theorem keep_stay {base : Nat} {w w' : World} {b : Nat} {o : Option Nat} {d : DS} (hk : Keep w w' b o) (hd : Det base w b o d) : Stay w w' := by
  intro g cs ty fr h1 h2 hg
  have hlt := (Array.getElem?_eq_some_iff.1 hg).1
  obtain ⟨v, hv, hown, ho⟩ := hd.mem
  refine (hk.block g hlt ?_ ?_).trans hg
  · rintro rfl
    rw [hg] at hv
    injection hv with hv
    injection hv with _ e _
    exact h2 e
  · intro e
    rcases hown.2 with ⟨rfl, _⟩ | ⟨g2, cap, cur, rfl, _, hh, _⟩
    · rw [← ho] at e
      simp [Value.ownBlock] at e
    · have : g = g2 := by
        rw [← ho] at e
        simpa [Value.ownBlock] using e
      subst this
      rw [hg] at hh
      injection hh with hh
      injection hh with _ e2 _
      exact h1 e2

theorem do_at (w wi : World) (b : Nat) (d : DS) (k : Int) (bs : ByteArray) (h : At w b d wi) (hg : Gl w) (hs : bs.size ≤ maxLen) :
    Calls Tryd.prog 24 #[.pointer (some ⟨b, 0, none⟩), .agg #[.int .i64 k, .string bs]] wi fun e w' =>
      (∃ v, e = .returned (rpV (doDS d k bs.data.toList).2 v) ∧ w'.ownsRow wi.heap.size 3 1 v (doDS d k bs.data.toList).2.out.length (ints (doDS d k bs.data.toList).2.out)) ∧ At w b (doDS d k bs.data.toList).1 w' ∧ Stay wi w' ∧ wi.heap.size ≤ w'.heap.size := by
  obtain ⟨⟨o, hd⟩, ho, hb⟩ := h
  refine (do_any w.heap.size b o d k bs wi hd ho (hg.below hb) (Gb.of hg) hs).mono ?_
  rintro e w' ⟨hv, ⟨o', hd', _⟩, hk⟩
  exact ⟨hv, ⟨⟨o', hd'⟩, ho.doDS k _, hb.trans (hk.below hd.low (fun n e => (hd.own_lt n e).1) hb.size)⟩, keep_stay hk hd, hk.size⟩

theorem new_at (s : ByteArray) (w wi : World) (hb : Below w.heap.size w wi) (hs : s.size ≤ maxLen) :
    Calls Tryd.prog 27 #[.string s] wi fun e w' => (∃ b, e = .returned (.pointer (some ⟨b, 0, none⟩)) ∧ wi.heap.size ≤ b ∧ At w b (newDS (Pl.find s.data.toList)) w') ∧ Below wi.heap.size wi w' := by
  refine (detNew_any s wi hs).mono ?_
  rintro e w' ⟨⟨b, rfl, h1, hd⟩, h2⟩
  have hf := find_range s.data.toList
  have hz := hb.size
  refine ⟨⟨b, rfl, h1, ⟨none, ⟨by omega, ?_⟩⟩, okNew _ hf.1 hf.2, hb.trans (h2.mono hz)⟩, h2⟩
  obtain ⟨v, hv, hown, ho⟩ := hd.mem
  exact ⟨v, hv, World.ownsRow.mono hown hz, ho⟩
theorem Stay.below {w w' : World} (h : Below w.heap.size w w') : Stay w w' := fun g _ _ _ _ _ hg => (h.block g (Array.getElem?_eq_some_iff.1 hg).1).trans hg
theorem Stay.trans {a b c : World} (h : Stay a b) (k : Stay b c) : Stay a c := fun g cs ty fr h1 h2 hg => k g cs ty fr h1 h2 (h g cs ty fr h1 h2 hg)
end Go.Proofs.YtefohnbmifblkaaDoor

/-
  Plain: what is final stays.
-/
namespace Go.Proofs.YtefohnbmifblkaaDoor
open Go.RowKit

theorem doDS_feed (d : DS) (l : List UInt8) (ha : d.acts < 300) (he : d.ended = false) (hl : d.bs.length + l.length ≤ 4000) : doDS d 1 l = (fed d l, rp0 0) := by
  unfold doDS
  rw [if_neg (by omega), if_neg (by omega), if_neg (by omega), he, if_neg (by simp), if_neg (by omega), if_neg (by omega)]
theorem doDS_ask (d : DS) (l : List UInt8) (ha : d.acts < 300) : doDS d 2 l = (tick d, ⟨0, vd (tick d), []⟩) := by
  unfold doDS
  rw [if_neg (by omega), if_neg (by omega), if_pos rfl]
theorem doDS_finish (d : DS) (l : List UInt8) (ha : d.acts < 300) (he : d.ended = false) : doDS d 3 l = (fin d, ⟨0, vd (fin d), tell (vd (fin d)).1 d.bs⟩) := by
  unfold doDS
  rw [if_neg (by omega), if_neg (by omega), if_neg (by omega), he, if_neg (by simp), if_pos rfl]

/-- a final verdict is the verdict behind more bytes. -/
theorem vd_sure (d d' : DS) (t : List UInt8) (hb : d'.bs = d.bs ++ t) (hh : d'.hint = d.hint) (he : d.ended = false) (_he' : d'.ended = true) (hf : (vd d).2.2 = true) : vd d' = vd d := by
  by_cases hm : (Pl.mark d.bs).1 ≠ 0
  · have h1 := (Pl.mark_stays d.bs t (.inl hm)).1
    unfold vd
    rw [hb, h1, if_pos hm, if_pos hm]
  by_cases hq : Pl.mayMark d.bs = false
  · have h1 := Pl.mark_stays d.bs t (.inr hq)
    by_cases hz : d.hint ≠ 0
    · unfold vd
      rw [hb, h1.1, if_neg hm, if_neg hm, hh, if_pos hz, if_pos hz, h1.2, hq]
      simp
    · by_cases hl : (Pl.label d.bs).1 ≠ 0
      · have h2 := Pl.label_sure d.bs
        have h3 : Pl.label (d.bs ++ t) = Pl.label d.bs := Pl.label_stays d.bs t (by rcases h2 with h2 | h2; exact absurd h2 hl; exact h2)
        unfold vd
        rw [hb, h1.1, if_neg hm, if_neg hm, hh, if_neg hz, if_neg hz, h3, if_pos hl, if_pos hl, h1.2, hq]
        simp
      · unfold vd at hf
        rw [if_neg hm, if_neg hz, if_neg hl] at hf
        rw [he] at hf
        split at hf <;> simp at hf
  · unfold vd at hf
    have hq2 : Pl.mayMark d.bs = true := by simpa using hq
    rw [if_neg hm, he, hq2] at hf
    exfalso
    revert hf
    repeat' split
    all_goals simp

theorem sure_plain (h : Int) (s t : List UInt8) (hl : s.length + t.length ≤ 4000) (hf : (doDS (doDS (newDS h) 1 s).1 2 []).2.vd.2.2 = true) :
    (doDS (doDS (doDS (doDS (newDS h) 1 s).1 2 []).1 1 t).1 3 []).2.vd = (doDS (doDS (newDS h) 1 s).1 2 []).2.vd := by
  have e1 : doDS (newDS h) 1 s = (fed (newDS h) s, rp0 0) := doDS_feed _ _ (by simp [newDS]) rfl (by simp [newDS]; omega)
  rw [e1] at hf ⊢
  dsimp only at hf ⊢
  have e2 : doDS (fed (newDS h) s) 2 [] = (tick (fed (newDS h) s), ⟨0, vd (tick (fed (newDS h) s)), []⟩) := doDS_ask _ _ (by simp [fed, newDS])
  rw [e2] at hf ⊢
  dsimp only at hf ⊢
  have e3 : doDS (tick (fed (newDS h) s)) 1 t = (fed (tick (fed (newDS h) s)) t, rp0 0) := doDS_feed _ _ (by simp [tick, fed, newDS]) rfl (by simp [tick, fed, newDS]; omega)
  rw [e3]
  dsimp only
  have e4 : doDS (fed (tick (fed (newDS h) s)) t) 3 [] = (fin (fed (tick (fed (newDS h) s)) t), ⟨0, vd (fin (fed (tick (fed (newDS h) s)) t)), tell (vd (fin (fed (tick (fed (newDS h) s)) t))).1 (fed (tick (fed (newDS h) s)) t).bs⟩) := doDS_finish _ _ (by simp [tick, fed, newDS]) rfl
  rw [e4]
  exact vd_sure (tick (fed (newDS h) s)) (fin (fed (tick (fed (newDS h) s)) t)) t rfl rfl rfl rfl hf
end Go.Proofs.YtefohnbmifblkaaDoor

/-
  Plain: the same bytes in whatever parts; a mark in front.
-/
namespace Go.Proofs.YtefohnbmifblkaaDoor
open Go.RowKit

/-- two detectors that differ in the number of acts alone. -/
structure EqA (d d' : DS) : Prop where
  hint : d.hint = d'.hint
  bs : d.bs = d'.bs
  sc : d.sc = d'.sc
  last : d.last = d'.last
  ended : d.ended = d'.ended
theorem EqA.refl (d : DS) : EqA d d := ⟨rfl, rfl, rfl, rfl, rfl⟩
theorem EqA.trans {a b c : DS} (h : EqA a b) (k : EqA b c) : EqA a c := ⟨h.hint.trans k.hint, h.bs.trans k.bs, h.sc.trans k.sc, h.last.trans k.last, h.ended.trans k.ended⟩
theorem EqA.symm {a b : DS} (h : EqA a b) : EqA b a := ⟨h.hint.symm, h.bs.symm, h.sc.symm, h.last.symm, h.ended.symm⟩
theorem EqA.vd {a b : DS} (h : EqA a b) : vd a = vd b := by
  unfold Go.Proofs.YtefohnbmifblkaaDoor.vd
  rw [h.bs, h.hint, h.sc, h.ended]
theorem eqA_tick (d : DS) : EqA (tick d) d := ⟨rfl, rfl, rfl, rfl, rfl⟩
theorem EqA.fed {a b : DS} (h : EqA a b) (l : List UInt8) : EqA (fed a l) (fed b l) := by
  refine ⟨h.hint, ?_, ?_, ?_, h.ended⟩
  · show a.bs ++ l = b.bs ++ l
    rw [h.bs]
  · show (feedSc a.sc a.last l).1 = (feedSc b.sc b.last l).1
    rw [h.sc, h.last]
  · show (feedSc a.sc a.last l).2 = (feedSc b.sc b.last l).2
    rw [h.sc, h.last]
theorem EqA.fin {a b : DS} (h : EqA a b) : EqA (fin a) (fin b) := ⟨h.hint, h.bs, h.sc, h.last, rfl⟩
theorem feedSc_app : ∀ (l k : List UInt8) (sc : Nat → Int) (last : Int), feedSc sc last (l ++ k) = feedSc (feedSc sc last l).1 (feedSc sc last l).2 k
  | [], _, _, _ => rfl
  | c :: l, k, sc, last => feedSc_app l k (scNext sc last (Pl.byte c)) (Pl.byte c)
theorem fed_app (d : DS) (l k : List UInt8) : EqA (fed (fed d l) k) (fed d (l ++ k)) := by
  refine ⟨rfl, ?_, ?_, ?_, rfl⟩
  · show (d.bs ++ l) ++ k = d.bs ++ (l ++ k)
    rw [List.append_assoc]
  · show (feedSc (feedSc d.sc d.last l).1 (feedSc d.sc d.last l).2 k).1 = (feedSc d.sc d.last (l ++ k)).1
    rw [feedSc_app]
  · show (feedSc (feedSc d.sc d.last l).1 (feedSc d.sc d.last l).2 k).2 = (feedSc d.sc d.last (l ++ k)).2
    rw [feedSc_app]
theorem fed_nil (d : DS) : EqA (fed d []) d := ⟨rfl, List.append_nil _, rfl, rfl, rfl⟩

/-- the end's reply is the same. -/
theorem finish_same {a b : DS} (h : EqA a b) (ha : a.acts < 300) (hb : b.acts < 300) (he : a.ended = false) : (doDS a 3 []).2 = (doDS b 3 []).2 := by
  rw [doDS_finish a [] ha he, doDS_finish b [] hb (h.ended.symm.trans he)]
  show (⟨0, vd (fin a), tell (vd (fin a)).1 a.bs⟩ : Rp) = ⟨0, vd (fin b), tell (vd (fin b)).1 b.bs⟩
  rw [h.fin.vd, h.bs]

/-- byte by byte. -/
def fedAll : DS → List UInt8 → DS
  | d, [] => d
  | d, c :: l => fedAll (fed d [c]) l
theorem fedAll_same : ∀ (l : List UInt8) (d : DS), EqA (fedAll d l) (fed d l)
  | [], d => (fed_nil d).symm
  | c :: l, d => by
    have h1 := fedAll_same l (fed d [c])
    have h2 := fed_app d [c] l
    exact h1.trans h2
theorem fedAll_acts : ∀ (l : List UInt8) (d : DS), (fedAll d l).acts = d.acts + l.length
  | [], d => by simp [fedAll]
  | c :: l, d => by
    show (fedAll (fed d [c]) l).acts = _
    rw [fedAll_acts l]
    show d.acts + 1 + (l.length : Int) = _
    rw [List.length_cons]
    omega

/-- the marks. -/
def markOf (e : Int) : List UInt8 := if e = 1 then [239, 187, 191] else if e = 5 then [255, 254] else [254, 255]
theorem mark_front (e : Int) (he : e = 1 ∨ e = 5 ∨ e = 6) (l : List UInt8) : Pl.mark (markOf e ++ l) = (e, ((markOf e).length : Int)) := by
  rcases he with rfl | rfl | rfl <;> simp [Pl.mark, markOf]
theorem tell_front (e : Int) (he : e = 1 ∨ e = 5 ∨ e = 6) (l : List UInt8) : tell e (markOf e ++ l) = Pl.dWhole e l := by
  unfold tell
  rw [mark_front e he l, if_pos rfl]
  congr 1
  simp
theorem tell_front_len (e : Int) (he : e = 1 ∨ e = 5 ∨ e = 6) (l : List UInt8) : (tell e (markOf e ++ l)).length ≤ l.length := by
  rw [tell_front e he l]
  exact Pl.whole_len e he l
end Go.Proofs.YtefohnbmifblkaaDoor

/-
  The verdict out of a reply.
-/
namespace Go.Proofs.YtefohnbmifblkaaDoor
open Go.RowKit

theorem field_vd (cd x y : Int) (f : Bool) (v : Value) (W : World) : (Instr.field 38 (.agg #[.int .i64 cd, .int .i64 x, .int .i64 y, .bool f, v]) 1).run Tryd.prog W = .ok (.agg #[.int .i64 x, .int .i64 y, .bool f]) W := by
  have hI : (Tryd.prog.info? 35).map (fun i => i.size) = some 3 := by kernel_rfl
  obtain ⟨i, hi, h3⟩ := Option.map_eq_some_iff.1 hI
  have hU := Tryd.underlying38
  have hV := Tryd.underlying35
  simp [Instr.field, run_underlying hU, run_underlying hV, asAgg, part, isAgg, sizeOf, typeInfo, hi, h3]
end Go.Proofs.YtefohnbmifblkaaDoor

/-
  Plain: many acts at a detector: a final verdict stays; behind the end; what the scores found.
-/
namespace Go.Proofs.YtefohnbmifblkaaDoor
open Go.RowKit

/-- acts. -/
abbrev Ac := Int × ByteArray
def act (d : DS) (a : Ac) : DS := (doDS d a.1 a.2.data.toList).1
def runA (d : DS) (l : List Ac) : DS := l.foldl act d
theorem runA_snoc (d : DS) (l : List Ac) (a : Ac) : runA d (l ++ [a]) = act (runA d l) a := by
  unfold runA
  rw [List.foldl_append]
  rfl
theorem runA_succ (d : DS) (l : List Ac) (k : Nat) (a : Ac) (h : l[k]? = some a) : runA d (l.take (k + 1)) = act (runA d (l.take k)) a := by
  obtain ⟨hk, rfl⟩ := List.getElem?_eq_some_iff.1 h
  rw [← runA_snoc, List.take_append_getElem hk]
theorem runA_ok (d : DS) (h : OkD d) (l : List Ac) : OkD (runA d l) := by
  induction l generalizing d with
  | nil => exact h
  | cons a l ih => exact ih (act d a) (h.doDS _ _)

/-- what an act leaves: the same hint; more bytes, but behind the end. -/
theorem act_keep (d : DS) (k : Int) (l : List UInt8) : (doDS d k l).1.hint = d.hint ∧ ∃ t, (doDS d k l).1.bs = d.bs ++ t ∧ (d.ended = true → (doDS d k l).1.ended = true ∧ t = [] ∧ (doDS d k l).1.sc = d.sc) := by
  unfold doDS
  split
  · exact ⟨rfl, [], (List.append_nil _).symm, fun h => ⟨h, rfl, rfl⟩⟩
  split
  · exact ⟨rfl, [], (List.append_nil _).symm, fun h => ⟨h, rfl, rfl⟩⟩
  split
  · exact ⟨rfl, [], (List.append_nil _).symm, fun h => ⟨h, rfl, rfl⟩⟩
  split
  · exact ⟨rfl, [], (List.append_nil _).symm, fun h => ⟨h, rfl, rfl⟩⟩
  rename_i he
  split
  · exact ⟨rfl, [], (List.append_nil _).symm, fun h => absurd h he⟩
  split
  · exact ⟨rfl, [], (List.append_nil _).symm, fun h => absurd h he⟩
  · exact ⟨rfl, l, rfl, fun h => absurd h he⟩
theorem act_acts (d : DS) (k : Int) (l : List UInt8) : (doDS d k l).1.acts = if 300 ≤ d.acts then d.acts else d.acts + 1 := by
  unfold doDS
  split
  · rfl
  split
  · rfl
  split
  · rfl
  split
  · rfl
  split
  · rfl
  split
  · rfl
  · rfl
theorem runA_acts (d : DS) (l : List Ac) (h : d.acts + l.length ≤ 300) : (runA d l).acts = d.acts + l.length := by
  induction l generalizing d with
  | nil => simp [runA]
  | cons a l ih =>
    rw [List.length_cons] at h
    have e : (act d a).acts = d.acts + 1 := by
      show (doDS _ _ _).1.acts = _
      rw [act_acts, if_neg (by omega)]
    have ih := ih (act d a) (by rw [e]; omega)
    rw [e] at ih
    show (runA (act d a) l).acts = _
    rw [ih, List.length_cons]
    omega

/-- a final verdict is the verdict behind all that may come. -/
theorem vd_keep (d d' : DS) (t : List UInt8) (hb : d'.bs = d.bs ++ t) (hh : d'.hint = d.hint) (he : d.ended = true → d'.ended = true ∧ t = [] ∧ d'.sc = d.sc) (hf : (vd d).2.2 = true) : vd d' = vd d := by
  by_cases hend : d.ended = true
  · obtain ⟨h1, h2, h3⟩ := he hend
    subst h2
    rw [List.append_nil] at hb
    unfold vd
    rw [hb, hh, h1, h3, hend]
  have he0 : d.ended = false := by simpa using hend
  by_cases hm : (Pl.mark d.bs).1 ≠ 0
  · have h1 := (Pl.mark_stays d.bs t (.inl hm)).1
    unfold vd
    rw [hb, h1, if_pos hm, if_pos hm]
  by_cases hq : Pl.mayMark d.bs = false
  · have h1 := Pl.mark_stays d.bs t (.inr hq)
    by_cases hz : d.hint ≠ 0
    · unfold vd
      rw [hb, h1.1, if_neg hm, if_neg hm, hh, if_pos hz, if_pos hz, h1.2, hq]
      simp
    · by_cases hl : (Pl.label d.bs).1 ≠ 0
      · have h2 := Pl.label_sure d.bs
        have h3 : Pl.label (d.bs ++ t) = Pl.label d.bs := Pl.label_stays d.bs t (by rcases h2 with h2 | h2; exact absurd h2 hl; exact h2)
        unfold vd
        rw [hb, h1.1, if_neg hm, if_neg hm, hh, if_neg hz, if_neg hz, h3, if_pos hl, if_pos hl, h1.2, hq]
        simp
      · unfold vd at hf
        rw [if_neg hm, if_neg hz, if_neg hl] at hf
        rw [he0] at hf
        split at hf <;> simp at hf
  · unfold vd at hf
    have hq2 : Pl.mayMark d.bs = true := by simpa using hq
    rw [if_neg hm, he0, hq2] at hf
    exfalso
    revert hf
    repeat' split
    all_goals simp

/-- v: what was told last; if it is final it is the verdict still. -/
def Fi (d : DS) (v : Int × Int × Bool) : Prop := v.2.2 = true → vd d = v
theorem Fi.step {d : DS} {v : Int × Int × Bool} (h : Fi d v) (k : Int) (l : List UInt8) : Fi (doDS d k l).1 v := fun hf => by
  have h1 := h hf
  obtain ⟨hh, t, hb, he⟩ := act_keep d k l
  exact (vd_keep d _ t hb hh he (by rw [h1]; exact hf)).trans h1
theorem Fi.self (d : DS) : Fi d (vd d) := fun _ => rfl
theorem Fi.none (d : DS) : Fi d (0, 0, false) := fun h => by cases h
theorem ok_reply (d : DS) (k : Int) (l : List UInt8) (hc : (doDS d k l).2.code = 0) (hk : k ≠ 1) : (doDS d k l).2.vd = vd (doDS d k l).1 := by
  revert hc
  unfold doDS
  repeat' split
  all_goals first
    | (intro _; rfl)
    | (intro h; simp [rp0] at h; done)
    | (intro _; omega)
theorem code_range (d : DS) (k : Int) (l : List UInt8) : 0 ≤ (doDS d k l).2.code ∧ (doDS d k l).2.code ≤ 5 := by
  unfold doDS
  repeat' split
  all_goals simp [rp0]
theorem vd_by (d : DS) : 0 ≤ (vd d).2.1 ∧ (vd d).2.1 ≤ 4 := by
  unfold vd
  repeat' split
  all_goals simp

theorem tell_len (e : Int) (l : List UInt8) : (tell e l).length ≤ 6 * l.length + 2 := by
  unfold tell Pl.dWhole
  rw [List.length_append]
  have h1 := Pl.dFeed_len e (if (Pl.mark l).1 = e then l.drop (Pl.mark l).2.toNat else l) Pl.st0
  have h2 := Pl.dEnd_len (Pl.dFeed e Pl.st0 (if (Pl.mark l).1 = e then l.drop (Pl.mark l).2.toNat else l)).1
  have h3 : (if (Pl.mark l).1 = e then l.drop (Pl.mark l).2.toNat else l).length ≤ l.length := by
    split
    · rw [List.length_drop]
      omega
    · exact Nat.le_refl _
  omega
theorem out_len (d : DS) (h : OkD d) (k : Int) (l : List UInt8) : (doDS d k l).2.out.length ≤ 24002 := by
  have h1 := tell_len (vd (fin d)).1 d.bs
  have h2 := h.len
  unfold doDS
  repeat' split
  all_goals first
    | (show (tell (vd (fin d)).1 d.bs).length ≤ 24002; omega)
    | exact Nat.zero_le _

/-- the automata's states stand in the scores. -/
def ScR (d : DS) : Prop := ∀ e : Nat, 1 ≤ e → e ≤ 6 → d.sc (2 * e) = Pl.aRun (e : Int) 0 d.bs
theorem aRun_app (e : Int) : ∀ (l k : List UInt8) (a : Int), Pl.aRun e a (l ++ k) = Pl.aRun e (Pl.aRun e a l) k
  | [], _, _ => rfl
  | c :: l, k, a => aRun_app e l k (Pl.aStep e a (Pl.byte c))
theorem feedSc_state (e : Nat) (he : 1 ≤ e) : ∀ (l : List UInt8) (sc : Nat → Int) (last : Int), (feedSc sc last l).1 (2 * e) = Pl.aRun (e : Int) (sc (2 * e)) l
  | [], _, _ => rfl
  | c :: l, sc, last => by
    show (feedSc (scNext sc last (Pl.byte c)) (Pl.byte c) l).1 (2 * e) = Pl.aRun (e : Int) (Pl.aStep (e : Int) (sc (2 * e)) (Pl.byte c)) l
    rw [feedSc_state e he l]
    have e1 : scNext sc last (Pl.byte c) (2 * e) = Pl.aStep (e : Int) (sc (2 * e)) (Pl.byte c) := by
      unfold scNext
      rw [if_neg (by omega), if_pos (by omega), show 2 * e / 2 = e by omega]
    rw [e1]
theorem ScR.new (h : Int) : ScR (newDS h) := fun _ _ _ => rfl
theorem ScR.fed {d : DS} (h : ScR d) (l : List UInt8) : ScR (fed d l) := fun e h1 h2 => by
  show (feedSc d.sc d.last l).1 (2 * e) = Pl.aRun e 0 (d.bs ++ l)
  rw [feedSc_state e h1, aRun_app, h e h1 h2]
theorem ScR.doDS {d : DS} (h : ScR d) (k : Int) (l : List UInt8) : ScR (doDS d k l).1 := by
  unfold Go.Proofs.YtefohnbmifblkaaDoor.doDS
  repeat' split
  all_goals first
    | exact h
    | exact h.fed l
theorem bestTo_ends (sc : Nat → Int) : ∀ j, bestTo sc j ≠ 0 → Pl.aEnds ((bestTo sc j : Nat) : Int) (sc (bestTo sc j * 2)) = true
  | 0, h => absurd rfl h
  | j + 1, h => by
    by_cases hc : Pl.aEnds ((j + 1 : Nat) : Int) (sc ((j + 1) * 2)) = true ∧ (bestTo sc j = 0 ∨ sc (bestTo sc j * 2 + 1) < sc ((j + 1) * 2 + 1))
    · have e : bestTo sc (j + 1) = j + 1 := by
        show (if _ then _ else _) = _
        rw [if_pos hc]
      rw [e]
      exact hc.1
    · have e : bestTo sc (j + 1) = bestTo sc j := by
        show (if _ then _ else _) = _
        rw [if_neg hc]
      rw [e] at h ⊢
      exact bestTo_ends sc j h
/-- what was found by scores is right, and is told without anything wrong. -/
theorem scored_right (d : DS) (h : ScR d) (hv : (vd d).2.1 = 4) : Pl.aEnds (vd d).1 (Pl.aRun (vd d).1 0 d.bs) = true ∧ (-1 : Int) ∉ tell (vd d).1 d.bs := by
  have hb : (Pl.mark d.bs).1 = 0 ∧ bestTo d.sc 6 ≠ 0 ∧ (vd d).1 = (bestTo d.sc 6 : Nat) := by
    unfold vd at hv ⊢
    by_cases h1 : (Pl.mark d.bs).1 ≠ 0
    · rw [if_pos h1] at hv
      exact absurd hv (by simp)
    rw [if_neg h1] at hv
    rw [if_neg h1]
    by_cases h2 : d.hint ≠ 0
    · rw [if_pos h2] at hv
      exact absurd hv (by simp)
    rw [if_neg h2] at hv
    rw [if_neg h2]
    by_cases h3 : (Pl.label d.bs).1 ≠ 0
    · rw [if_pos h3] at hv
      exact absurd hv (by simp)
    rw [if_neg h3] at hv
    rw [if_neg h3]
    by_cases h4 : bestTo d.sc 6 ≠ 0
    · rw [if_pos h4]
      exact ⟨by simpa using h1, h4, rfl⟩
    · rw [if_neg h4] at hv
      exact absurd hv (by simp)
  obtain ⟨hm, hz, he⟩ := hb
  have hr := bestTo_le d.sc 6
  have h1 := bestTo_ends d.sc 6 hz
  rw [Nat.mul_comm, h _ (by omega) hr] at h1
  have h2 := Pl.told_right ((bestTo d.sc 6 : Nat) : Int) (by omega) d.bs h1
  rw [he]
  refine ⟨h1, ?_⟩
  unfold tell
  rw [hm, if_neg (by omega)]
  exact h2
end Go.Proofs.YtefohnbmifblkaaDoor

/-
  Two detectors at work side by side; the bytes that were fed; what a reply's numbers stay like.
-/
namespace Go.Proofs.YtefohnbmifblkaaDoor
open Go.RowKit

/-- what has no detector's type and no byte's stays. -/
theorem own_stay {w w' : World} {base n : Nat} {v : Value} {xs : List Value} (h : w.ownsRow base 3 1 v n xs) (hs : Stay w w') : w'.ownsRow base 3 1 v n xs := by
  refine ⟨h.1, ?_⟩
  rcases h.2 with h0 | ⟨g, cap, cur, hg, hb, hh, hr⟩
  · exact .inl h0
  · exact .inr ⟨g, cap, cur, hg, hb, hs _ _ _ _ (by decide) (by decide) hh, hr⟩
theorem own_ints {w : World} {base : Nat} {v : Value} {xs : List Int} (h : w.ownsRow base 3 1 v xs.length (ints xs)) : Ints w v xs := by
  rcases xs with _ | ⟨x, r⟩
  · obtain ⟨p, cap, rfl⟩ := own_form h
    exact ⟨p, cap, rfl, .inl rfl⟩
  · obtain ⟨g, cap, rfl, _, _⟩ := World.ownsRow.form h (by simp)
    refine ⟨_, cap, rfl, .inr ⟨g, rfl, fun j y hj => ?_⟩⟩
    have hl : j < (x :: r).length := (List.getElem?_eq_some_iff.1 hj).1
    have := h.cellAt j (by omega)
    rw [this]
    show ((x :: r).map _)[j]? = _
    rw [List.getElem?_map, hj]
    rfl

theorem cross_apart {base : Nat} {w : World} {b b' : Nat} {o o' : Option Nat} {d d' : DS} (h : Det base w b o d) (h' : Det base w b' o' d') : o ≠ some b' := by
  obtain ⟨v, hv, hown, ho⟩ := h.mem
  obtain ⟨v', hv', _, _⟩ := h'.mem
  rintro rfl
  rcases hown.2 with ⟨rfl, _⟩ | ⟨g, cap, cur, rfl, _, hh, _⟩
  · simp [Value.ownBlock] at ho
  · have : g = b' := by simpa [Value.ownBlock] using ho
    subst this
    rw [hv'] at hh
    injection hh with hh
    injection hh with _ h2 _
    exact absurd h2 (by decide)

/-- in world wi there are two detectors that share nothing. -/
structure At2 (w : World) (b : Nat) (d : DS) (b' : Nat) (d' : DS) (wi : World) : Prop where
  mem : ∃ o o', Det w.heap.size wi b o d ∧ Det w.heap.size wi b' o' d' ∧ b ≠ b' ∧ ∀ n, o = some n → o' ≠ some n
  ok : OkD d
  ok' : OkD d'
  below : Below w.heap.size w wi
theorem At2.swap {w wi : World} {b b' : Nat} {d d' : DS} (h : At2 w b d b' d' wi) : At2 w b' d' b d wi := by
  obtain ⟨⟨o, o', h1, h2, h3, h4⟩, k1, k2, hb⟩ := h
  exact ⟨⟨o', o, h2, h1, h3.symm, fun n e e2 => h4 n e2 e⟩, k2, k1, hb⟩
theorem At2.fst {w wi : World} {b b' : Nat} {d d' : DS} (h : At2 w b d b' d' wi) : At w b d wi := by
  obtain ⟨⟨o, o', h1, h2, h3, h4⟩, k1, k2, hb⟩ := h
  exact ⟨⟨o, h1⟩, k1, hb⟩
theorem At2.snd {w wi : World} {b b' : Nat} {d d' : DS} (h : At2 w b d b' d' wi) : At w b' d' wi := h.swap.fst
theorem At2.alloc {w wi : World} {b b' : Nat} {d d' : DS} (h : At2 w b d b' d' wi) (x : Obj) : At2 w b d b' d' (wi.alloc x) := by
  obtain ⟨⟨o, o', h1, h2, h3, h4⟩, k1, k2, hb⟩ := h
  exact ⟨⟨o, o', h1.alloc x, h2.alloc x, h3, h4⟩, k1, k2, hb.alloc hb.size x⟩
theorem At2.next {w wi w2 : World} {b b' : Nat} {d d' : DS} (h : At2 w b d b' d' wi) (k : Below wi.heap.size wi w2) : At2 w b d b' d' w2 := by
  obtain ⟨⟨o, o', h1, h2, h3, h4⟩, k1, k2, hb⟩ := h
  exact ⟨⟨o, o', h1.below k (Nat.le_refl _), h2.below k (Nat.le_refl _), h3, h4⟩, k1, k2, hb.trans (k.mono hb.size)⟩

theorem Det.kept {base : Nat} {w w' : World} {b b' : Nat} {o o' : Option Nat} {d : DS} (h : Det base w b' o' d) (hk : Keep w w' b o) (h1 : b' ≠ b) (h2 : o ≠ some b') (h3 : o' ≠ some b) (h4 : ∀ n, o = some n → o' ≠ some n) : Det base w' b' o' d := by
  have hl := h.lt
  have hol := h.own_lt
  obtain ⟨v, hv, hown, ho⟩ := h.mem
  refine ⟨h.low, v, (hk.block b' hl h1 (fun e => h2 e.symm)).trans hv, ⟨hown.1, ?_⟩, ho⟩
  rcases hown.2 with h0 | ⟨g, cap, cur, hg, hb, hh, hr⟩
  · exact .inl h0
  · have hog : o' = some g := ho.symm.trans (by rw [hg]; rfl)
    refine .inr ⟨g, cap, cur, hg, hb, (hk.block g (hol g hog).2 ?_ ?_).trans hh, hr⟩
    · rintro rfl
      exact h3 hog
    · intro e
      exact h4 g e.symm hog

theorem do_at2 (w wi : World) (b : Nat) (d : DS) (b' : Nat) (d' : DS) (k : Int) (bs : ByteArray) (h : At2 w b d b' d' wi) (hg : Gl w) (hs : bs.size ≤ maxLen) :
    Calls Tryd.prog 24 #[.pointer (some ⟨b, 0, none⟩), .agg #[.int .i64 k, .string bs]] wi fun e w' =>
      (∃ v, e = .returned (rpV (doDS d k bs.data.toList).2 v) ∧ w'.ownsRow wi.heap.size 3 1 v (doDS d k bs.data.toList).2.out.length (ints (doDS d k bs.data.toList).2.out)) ∧ At2 w b (doDS d k bs.data.toList).1 b' d' w' ∧ Stay wi w' ∧ wi.heap.size ≤ w'.heap.size := by
  obtain ⟨⟨o, o', hd, hd', hne, hoo⟩, ho, ho', hb⟩ := h
  refine (do_any w.heap.size b o d k bs wi hd ho (hg.below hb) (Gb.of hg) hs).mono ?_
  rintro e w' ⟨hv, ⟨o1, hd1, hm1⟩, hk⟩
  have hol := hd'.own_lt
  refine ⟨hv, ⟨⟨o1, o', hd1, hd'.kept hk hne.symm (cross_apart hd hd') (cross_apart hd' hd) hoo, hne, ?_⟩, ho.doDS k _, ho', hb.trans (hk.below hd.low (fun n e => (hd.own_lt n e).1) hb.size)⟩, keep_stay hk hd, hk.size⟩
  intro n hn e
  rcases hm1 with rfl | ⟨m, rfl, hm⟩
  · exact hoo n hn e
  · injection hn with hn
    have := (hol n e).2
    omega

theorem new_at2 (s : ByteArray) (w wi : World) (b : Nat) (d : DS) (h : At w b d wi) (hs : s.size ≤ maxLen) :
    Calls Tryd.prog 27 #[.string s] wi fun e w' => (∃ b', e = .returned (.pointer (some ⟨b', 0, none⟩)) ∧ wi.heap.size ≤ b' ∧ At2 w b d b' (newDS (Pl.find s.data.toList)) w') ∧ Below wi.heap.size wi w' := by
  obtain ⟨⟨o, hd⟩, ho, hb⟩ := h
  refine (detNew_any s wi hs).mono ?_
  rintro e w' ⟨⟨b', rfl, h1, hd'⟩, h2⟩
  have hf := find_range s.data.toList
  have hz := hb.size
  have hlt := hd.lt
  refine ⟨⟨b', rfl, h1, ⟨o, none, hd.below h2 (Nat.le_refl _), ⟨by omega, ?_⟩, by omega, fun n _ e => by cases e⟩, ho, okNew _ hf.1 hf.2, hb.trans (h2.mono hz)⟩, h2⟩
  obtain ⟨v, hv, hown, hvo⟩ := hd'.mem
  exact ⟨v, hv, World.ownsRow.mono hown hz, hvo⟩

set_option maxHeartbeats 1000000 in
theorem bytes_at (w wi : World) (b : Nat) (d : DS) (h : At w b d wi) :
    Calls Tryd.prog 25 #[.pointer (some ⟨b, 0, none⟩)] wi fun e w' => e = .returned (.string ⟨d.bs.toArray⟩) ∧ wi = w' := by
  obtain ⟨⟨o, hd⟩, ho, hb⟩ := h
  obtain ⟨_, v, hblk, hown, _⟩ := hd
  have hlen := ho.len
  have hconv := own_string (P := Tryd.prog) Tryd.underlying69 Tryd.underlying5 Tryd.underlying9 hown
  have c1 : wi.cell? ⟨b, 1, none⟩ = some v := cell_of_row wi b 1 _ _ _ hblk
  clear hown hblk ho hb
  go_enter Tryd.func25, Tryd.ntmps25
  go_wp2
  go_ret
  exact ⟨rfl, rfl⟩

/-- acts in memory: as an argument lists them. -/
def Acts (w : World) (v : Value) (l : List Ac) : Prop :=
  ∃ (a : Option Addr) (c : Nat), v = .slice a l.length c ∧ l.length ≤ maxLen ∧ (∀ x ∈ l, x.2.size ≤ maxLen) ∧ (l = [] ∨ ∃ g off : Nat, a = some ⟨g, off, none⟩ ∧ ∀ (j : Nat) (x : Ac), l[j]? = some x → w.cell? ⟨g, off + j * 2, none⟩ = some (.int .i64 x.1) ∧ w.cell? ⟨g, off + j * 2 + 1, none⟩ = some (.string x.2))
theorem Acts.below {w w' : World} {v : Value} {l : List Ac} (h : Acts w v l) (hb : Below w.heap.size w w') : Acts w' v l := by
  obtain ⟨a, c, rfl, hl, hx, h⟩ := h
  refine ⟨a, c, rfl, hl, hx, ?_⟩
  rcases h with h | ⟨g, off, rfl, h⟩
  · exact .inl h
  · exact .inr ⟨g, off, rfl, fun j x hj => ⟨(hb.cell (p := ⟨g, _, none⟩) (lt_of_cell (h j x hj).1)).trans (h j x hj).1, (hb.cell (p := ⟨g, _, none⟩) (lt_of_cell (h j x hj).2)).trans (h j x hj).2⟩⟩

theorem At.drew {w wi : World} {b : Nat} {d : DS} (h : At w b d wi) : At w b d wi.drew := h.next (below_drewN (Below.refl _ wi) 1)
theorem stay_drew (w : World) : Stay w w.drew := fun _ _ _ _ _ _ hg => hg
theorem own_drew {w : World} {base : Nat} {e : TypeId} {s n : Nat} {v : Value} {xs : List Value} (h : w.ownsRow base e s v n xs) : w.drew.ownsRow base e s v n xs := h

theorem Drew.stay {w w' : World} (h : Drew w w') : Stay w w' := fun _ _ _ _ _ _ hg => by rw [h.heap]; exact hg
theorem Drew.at_ {w wi w2 : World} {b : Nat} {d : DS} (h : At w b d wi) (k : Drew wi w2) : At w b d w2 := h.next k.below
theorem Drew.owns {w w' : World} (h : Drew w w') {base : Nat} {e : TypeId} {s n : Nat} {v : Value} {xs : List Value} (k : w.ownsRow base e s v n xs) : w'.ownsRow base e s v n xs := by
  obtain ⟨m, rfl⟩ := h
  exact k

/-- a block of another type is turned: the detector stays. -/
theorem At.only {w W w' : World} {b B : Nat} {d : DS} {cs : Array Value} {ty : TypeId} {fr : Nat × Nat} (h : At w b d W) (hB : W.heap[B]? = some (.cells cs ty fr)) (h1 : ty ≠ 5) (h2 : ty ≠ 75) (hlow : w.heap.size ≤ B) (k : Keep W w' B none) : At w b d w' := by
  obtain ⟨⟨o, hd⟩, ho, hb⟩ := h
  refine ⟨⟨o, hd.kept k ?_ (fun e => by cases e) ?_ (fun n e => by cases e)⟩, ho, hb.trans (k.below hlow (fun n e => by cases e) hb.size)⟩
  · rintro rfl
    obtain ⟨v, hv, _⟩ := hd.mem
    rw [hv] at hB
    injection hB with hB
    injection hB with _ e _
    exact h2 e.symm
  · rintro rfl
    obtain ⟨v, hv, hown, hvo⟩ := hd.mem
    rcases hown.2 with ⟨rfl, _⟩ | ⟨g, cap, cur, rfl, _, hh, _⟩
    · simp [Value.ownBlock] at hvo
    · have : g = B := by simpa [Value.ownBlock] using hvo
      subst this
      rw [hB] at hh
      injection hh with hh
      injection hh with _ e _
      exact h1 e
end Go.Proofs.YtefohnbmifblkaaDoor
