/-
  Plain: many acts at a detector: a final verdict stays; behind the end; what the scores found.
-/
import Derived.Test.YtefohnbmifblkabDoorTpA
namespace Go.Proofs.YtefohnbmifblkabDoor
open Go.RowKit

/-- acts. -/
abbrev Ac := Int × ByteArray
def act (d : DS) (a : Ac) : DS := (doDS d a.1 a.2.data.toList).1
def runA (d : DS) (l : List Ac) : DS := l.foldl act d
theorem runA_snoc (d : DS) (l : List Ac) (a : Ac) : runA d (l ++ [a]) = act (runA d l) a := by
  unfold runA
  rw [List.foldl_append]
  rfl
theorem runA_succ (d : DS) (l : List Ac) (k : Nat) (a : Ac) (h : l[k]? = some a) : runA d (l.take (k + 1)) = act (runA d (l.take k)) a := by
  obtain ⟨hk, rfl⟩ := List.getElem?_eq_some_iff.1 h
  rw [← runA_snoc, List.take_append_getElem hk]
theorem runA_ok (d : DS) (h : OkD d) (l : List Ac) : OkD (runA d l) := by
  induction l generalizing d with
  | nil => exact h
  | cons a l ih => exact ih (act d a) (h.doDS _ _)

/-- what an act leaves: the same hint; more bytes, but behind the end. -/
theorem act_keep (d : DS) (k : Int) (l : List UInt8) : (doDS d k l).1.hint = d.hint ∧ ∃ t, (doDS d k l).1.bs = d.bs ++ t ∧ (d.ended = true → (doDS d k l).1.ended = true ∧ t = [] ∧ (doDS d k l).1.sc = d.sc) := by
  unfold doDS
  split
  · exact ⟨rfl, [], (List.append_nil _).symm, fun h => ⟨h, rfl, rfl⟩⟩
  split
  · exact ⟨rfl, [], (List.append_nil _).symm, fun h => ⟨h, rfl, rfl⟩⟩
  split
  · exact ⟨rfl, [], (List.append_nil _).symm, fun h => ⟨h, rfl, rfl⟩⟩
  split
  · exact ⟨rfl, [], (List.append_nil _).symm, fun h => ⟨h, rfl, rfl⟩⟩
  rename_i he
  split
  · exact ⟨rfl, [], (List.append_nil _).symm, fun h => absurd h he⟩
  split
  · exact ⟨rfl, [], (List.append_nil _).symm, fun h => absurd h he⟩
  · exact ⟨rfl, l, rfl, fun h => absurd h he⟩
theorem act_acts (d : DS) (k : Int) (l : List UInt8) : (doDS d k l).1.acts = if 300 ≤ d.acts then d.acts else d.acts + 1 := by
  unfold doDS
  split
  · rfl
  split
  · rfl
  split
  · rfl
  split
  · rfl
  split
  · rfl
  split
  · rfl
  · rfl
theorem runA_acts (d : DS) (l : List Ac) (h : d.acts + l.length ≤ 300) : (runA d l).acts = d.acts + l.length := by
  induction l generalizing d with
  | nil => simp [runA]
  | cons a l ih =>
    rw [List.length_cons] at h
    have e : (act d a).acts = d.acts + 1 := by
      show (doDS _ _ _).1.acts = _
      rw [act_acts, if_neg (by omega)]
    have ih := ih (act d a) (by rw [e]; omega)
    rw [e] at ih
    show (runA (act d a) l).acts = _
    rw [ih, List.length_cons]
    omega

/-- a final verdict is the verdict behind all that may come. -/
theorem vd_keep (d d' : DS) (t : List UInt8) (hb : d'.bs = d.bs ++ t) (hh : d'.hint = d.hint) (he : d.ended = true → d'.ended = true ∧ t = [] ∧ d'.sc = d.sc) (hf : (vd d).2.2 = true) : vd d' = vd d := by
  by_cases hend : d.ended = true
  · obtain ⟨h1, h2, h3⟩ := he hend
    subst h2
    rw [List.append_nil] at hb
    unfold vd
    rw [hb, hh, h1, h3, hend]
  have he0 : d.ended = false := by simpa using hend
  by_cases hm : (Pl.mark d.bs).1 ≠ 0
  · have h1 := (Pl.mark_stays d.bs t (.inl hm)).1
    unfold vd
    rw [hb, h1, if_pos hm, if_pos hm]
  by_cases hq : Pl.mayMark d.bs = false
  · have h1 := Pl.mark_stays d.bs t (.inr hq)
    by_cases hz : d.hint ≠ 0
    · unfold vd
      rw [hb, h1.1, if_neg hm, if_neg hm, hh, if_pos hz, if_pos hz, h1.2, hq]
      simp
    · by_cases hl : (Pl.label d.bs).1 ≠ 0
      · have h2 := Pl.label_sure d.bs
        have h3 : Pl.label (d.bs ++ t) = Pl.label d.bs := Pl.label_stays d.bs t (by rcases h2 with h2 | h2; exact absurd h2 hl; exact h2)
        unfold vd
        rw [hb, h1.1, if_neg hm, if_neg hm, hh, if_neg hz, if_neg hz, h3, if_pos hl, if_pos hl, h1.2, hq]
        simp
      · unfold vd at hf
        rw [if_neg hm, if_neg hz, if_neg hl] at hf
        rw [he0] at hf
        split at hf <;> simp at hf
  · unfold vd at hf
    have hq2 : Pl.mayMark d.bs = true := by simpa using hq
    rw [if_neg hm, he0, hq2] at hf
    exfalso
    revert hf
    repeat' split
    all_goals simp

/-- v: what was told last; if it is final it is the verdict still. -/
def Fi (d : DS) (v : Int × Int × Bool) : Prop := v.2.2 = true → vd d = v
theorem Fi.step {d : DS} {v : Int × Int × Bool} (h : Fi d v) (k : Int) (l : List UInt8) : Fi (doDS d k l).1 v := fun hf => by
  have h1 := h hf
  obtain ⟨hh, t, hb, he⟩ := act_keep d k l
  exact (vd_keep d _ t hb hh he (by rw [h1]; exact hf)).trans h1
theorem Fi.self (d : DS) : Fi d (vd d) := fun _ => rfl
theorem Fi.none (d : DS) : Fi d (0, 0, false) := fun h => by cases h
theorem ok_reply (d : DS) (k : Int) (l : List UInt8) (hc : (doDS d k l).2.code = 0) (hk : k ≠ 1) : (doDS d k l).2.vd = vd (doDS d k l).1 := by
  revert hc
  unfold doDS
  repeat' split
  all_goals first
    | (intro _; rfl)
    | (intro h; simp [rp0] at h; done)
    | (intro _; omega)
theorem code_range (d : DS) (k : Int) (l : List UInt8) : 0 ≤ (doDS d k l).2.code ∧ (doDS d k l).2.code ≤ 5 := by
  unfold doDS
  repeat' split
  all_goals simp [rp0]
theorem vd_by (d : DS) : 0 ≤ (vd d).2.1 ∧ (vd d).2.1 ≤ 4 := by
  unfold vd
  repeat' split
  all_goals simp

theorem tell_len (e : Int) (l : List UInt8) : (tell e l).length ≤ 6 * l.length + 2 := by
  unfold tell Pl.dWhole
  rw [List.length_append]
  have h1 := Pl.dFeed_len e (if (Pl.mark l).1 = e then l.drop (Pl.mark l).2.toNat else l) Pl.st0
  have h2 := Pl.dEnd_len (Pl.dFeed e Pl.st0 (if (Pl.mark l).1 = e then l.drop (Pl.mark l).2.toNat else l)).1
  have h3 : (if (Pl.mark l).1 = e then l.drop (Pl.mark l).2.toNat else l).length ≤ l.length := by
    split
    · rw [List.length_drop]
      omega
    · exact Nat.le_refl _
  omega
theorem out_len (d : DS) (h : OkD d) (k : Int) (l : List UInt8) : (doDS d k l).2.out.length ≤ 24002 := by
  have h1 := tell_len (vd (fin d)).1 d.bs
  have h2 := h.len
  unfold doDS
  repeat' split
  all_goals first
    | (show (tell (vd (fin d)).1 d.bs).length ≤ 24002; omega)
    | exact Nat.zero_le _

/-- the automata's states stand in the scores. -/
def ScR (d : DS) : Prop := ∀ e : Nat, 1 ≤ e → e ≤ 6 → d.sc (2 * e) = Pl.aRun (e : Int) 0 d.bs
theorem aRun_app (e : Int) : ∀ (l k : List UInt8) (a : Int), Pl.aRun e a (l ++ k) = Pl.aRun e (Pl.aRun e a l) k
  | [], _, _ => rfl
  | c :: l, k, a => aRun_app e l k (Pl.aStep e a (Pl.byte c))
theorem feedSc_state (e : Nat) (he : 1 ≤ e) : ∀ (l : List UInt8) (sc : Nat → Int) (last : Int), (feedSc sc last l).1 (2 * e) = Pl.aRun (e : Int) (sc (2 * e)) l
  | [], _, _ => rfl
  | c :: l, sc, last => by
    show (feedSc (scNext sc last (Pl.byte c)) (Pl.byte c) l).1 (2 * e) = Pl.aRun (e : Int) (Pl.aStep (e : Int) (sc (2 * e)) (Pl.byte c)) l
    rw [feedSc_state e he l]
    have e1 : scNext sc last (Pl.byte c) (2 * e) = Pl.aStep (e : Int) (sc (2 * e)) (Pl.byte c) := by
      unfold scNext
      rw [if_neg (by omega), if_pos (by omega), show 2 * e / 2 = e by omega]
    rw [e1]
theorem ScR.new (h : Int) : ScR (newDS h) := fun _ _ _ => rfl
theorem ScR.fed {d : DS} (h : ScR d) (l : List UInt8) : ScR (fed d l) := fun e h1 h2 => by
  show (feedSc d.sc d.last l).1 (2 * e) = Pl.aRun e 0 (d.bs ++ l)
  rw [feedSc_state e h1, aRun_app, h e h1 h2]
theorem ScR.doDS {d : DS} (h : ScR d) (k : Int) (l : List UInt8) : ScR (doDS d k l).1 := by
  unfold Go.Proofs.YtefohnbmifblkabDoor.doDS
  repeat' split
  all_goals first
    | exact h
    | exact h.fed l
theorem bestTo_ends (sc : Nat → Int) : ∀ j, bestTo sc j ≠ 0 → Pl.aEnds ((bestTo sc j : Nat) : Int) (sc (bestTo sc j * 2)) = true
  | 0, h => absurd rfl h
  | j + 1, h => by
    by_cases hc : Pl.aEnds ((j + 1 : Nat) : Int) (sc ((j + 1) * 2)) = true ∧ (bestTo sc j = 0 ∨ sc (bestTo sc j * 2 + 1) < sc ((j + 1) * 2 + 1))
    · have e : bestTo sc (j + 1) = j + 1 := by
        show (if _ then _ else _) = _
        rw [if_pos hc]
      rw [e]
      exact hc.1
    · have e : bestTo sc (j + 1) = bestTo sc j := by
        show (if _ then _ else _) = _
        rw [if_neg hc]
      rw [e] at h ⊢
      exact bestTo_ends sc j h
/-- what was found by scores is right, and is told without anything wrong. -/
theorem scored_right (d : DS) (h : ScR d) (hv : (vd d).2.1 = 4) : Pl.aEnds (vd d).1 (Pl.aRun (vd d).1 0 d.bs) = true ∧ (-1 : Int) ∉ tell (vd d).1 d.bs := by
  have hb : (Pl.mark d.bs).1 = 0 ∧ bestTo d.sc 6 ≠ 0 ∧ (vd d).1 = (bestTo d.sc 6 : Nat) := by
    unfold vd at hv ⊢
    by_cases h1 : (Pl.mark d.bs).1 ≠ 0
    · rw [if_pos h1] at hv
      exact absurd hv (by simp)
    rw [if_neg h1] at hv
    rw [if_neg h1]
    by_cases h2 : d.hint ≠ 0
    · rw [if_pos h2] at hv
      exact absurd hv (by simp)
    rw [if_neg h2] at hv
    rw [if_neg h2]
    by_cases h3 : (Pl.label d.bs).1 ≠ 0
    · rw [if_pos h3] at hv
      exact absurd hv (by simp)
    rw [if_neg h3] at hv
    rw [if_neg h3]
    by_cases h4 : bestTo d.sc 6 ≠ 0
    · rw [if_pos h4]
      exact ⟨by simpa using h1, h4, rfl⟩
    · rw [if_neg h4] at hv
      exact absurd hv (by simp)
  obtain ⟨hm, hz, he⟩ := hb
  have hr := bestTo_le d.sc 6
  have h1 := bestTo_ends d.sc 6 hz
  rw [Nat.mul_comm, h _ (by omega) hr] at h1
  have h2 := Pl.told_right ((bestTo d.sc 6 : Nat) : Int) (by omega) d.bs h1
  rw [he]
  refine ⟨h1, ?_⟩
  unfold tell
  rw [hm, if_neg (by omega)]
  exact h2
end Go.Proofs.YtefohnbmifblkabDoor

/-
  Two detectors at work side by side; the bytes that were fed; what a reply's numbers stay like.
-/
namespace Go.Proofs.YtefohnbmifblkabDoor
open Go.RowKit

/-- what has no detector's type and no byte's stays. -/
theorem own_stay {w w' : World} {base n : Nat} {v : Value} {xs : List Value} (h : w.ownsRow base 3 1 v n xs) (hs : Stay w w') : w'.ownsRow base 3 1 v n xs := by
  refine ⟨h.1, ?_⟩
  rcases h.2 with h0 | ⟨g, cap, cur, hg, hb, hh, hr⟩
  · exact .inl h0
  · exact .inr ⟨g, cap, cur, hg, hb, hs _ _ _ _ (by decide) (by decide) hh, hr⟩
theorem own_ints {w : World} {base : Nat} {v : Value} {xs : List Int} (h : w.ownsRow base 3 1 v xs.length (ints xs)) : Ints w v xs := by
  rcases xs with _ | ⟨x, r⟩
  · obtain ⟨p, cap, rfl⟩ := own_form h
    exact ⟨p, cap, rfl, .inl rfl⟩
  · obtain ⟨g, cap, rfl, _, _⟩ := World.ownsRow.form h (by simp)
    refine ⟨_, cap, rfl, .inr ⟨g, rfl, fun j y hj => ?_⟩⟩
    have hl : j < (x :: r).length := (List.getElem?_eq_some_iff.1 hj).1
    have := h.cellAt j (by omega)
    rw [this]
    show ((x :: r).map _)[j]? = _
    rw [List.getElem?_map, hj]
    rfl

theorem cross_apart {base : Nat} {w : World} {b b' : Nat} {o o' : Option Nat} {d d' : DS} (h : Det base w b o d) (h' : Det base w b' o' d') : o ≠ some b' := by
  obtain ⟨v, hv, hown, ho⟩ := h.mem
  obtain ⟨v', hv', _, _⟩ := h'.mem
  rintro rfl
  rcases hown.2 with ⟨rfl, _⟩ | ⟨g, cap, cur, rfl, _, hh, _⟩
  · simp [Value.ownBlock] at ho
  · have : g = b' := by simpa [Value.ownBlock] using ho
    subst this
    rw [hv'] at hh
    injection hh with hh
    injection hh with _ h2 _
    exact absurd h2 (by decide)

/-- in world wi there are two detectors that share nothing. -/
structure At2 (w : World) (b : Nat) (d : DS) (b' : Nat) (d' : DS) (wi : World) : Prop where
  mem : ∃ o o', Det w.heap.size wi b o d ∧ Det w.heap.size wi b' o' d' ∧ b ≠ b' ∧ ∀ n, o = some n → o' ≠ some n
  ok : OkD d
  ok' : OkD d'
  below : Below w.heap.size w wi
theorem At2.swap {w wi : World} {b b' : Nat} {d d' : DS} (h : At2 w b d b' d' wi) : At2 w b' d' b d wi := by
  obtain ⟨⟨o, o', h1, h2, h3, h4⟩, k1, k2, hb⟩ := h
  exact ⟨⟨o', o, h2, h1, h3.symm, fun n e e2 => h4 n e2 e⟩, k2, k1, hb⟩
theorem At2.fst {w wi : World} {b b' : Nat} {d d' : DS} (h : At2 w b d b' d' wi) : At w b d wi := by
  obtain ⟨⟨o, o', h1, h2, h3, h4⟩, k1, k2, hb⟩ := h
  exact ⟨⟨o, h1⟩, k1, hb⟩
theorem At2.snd {w wi : World} {b b' : Nat} {d d' : DS} (h : At2 w b d b' d' wi) : At w b' d' wi := h.swap.fst
theorem At2.alloc {w wi : World} {b b' : Nat} {d d' : DS} (h : At2 w b d b' d' wi) (x : Obj) : At2 w b d b' d' (wi.alloc x) := by
  obtain ⟨⟨o, o', h1, h2, h3, h4⟩, k1, k2, hb⟩ := h
  exact ⟨⟨o, o', h1.alloc x, h2.alloc x, h3, h4⟩, k1, k2, hb.alloc hb.size x⟩
theorem At2.next {w wi w2 : World} {b b' : Nat} {d d' : DS} (h : At2 w b d b' d' wi) (k : Below wi.heap.size wi w2) : At2 w b d b' d' w2 := by
  obtain ⟨⟨o, o', h1, h2, h3, h4⟩, k1, k2, hb⟩ := h
  exact ⟨⟨o, o', h1.below k (Nat.le_refl _), h2.below k (Nat.le_refl _), h3, h4⟩, k1, k2, hb.trans (k.mono hb.size)⟩

theorem Det.kept {base : Nat} {w w' : World} {b b' : Nat} {o o' : Option Nat} {d : DS} (h : Det base w b' o' d) (hk : Keep w w' b o) (h1 : b' ≠ b) (h2 : o ≠ some b') (h3 : o' ≠ some b) (h4 : ∀ n, o = some n → o' ≠ some n) : Det base w' b' o' d := by
  have hl := h.lt
  have hol := h.own_lt
  obtain ⟨v, hv, hown, ho⟩ := h.mem
  refine ⟨h.low, v, (hk.block b' hl h1 (fun e => h2 e.symm)).trans hv, ⟨hown.1, ?_⟩, ho⟩
  rcases hown.2 with h0 | ⟨g, cap, cur, hg, hb, hh, hr⟩
  · exact .inl h0
  · have hog : o' = some g := ho.symm.trans (by rw [hg]; rfl)
    refine .inr ⟨g, cap, cur, hg, hb, (hk.block g (hol g hog).2 ?_ ?_).trans hh, hr⟩
    · rintro rfl
      exact h3 hog
    · intro e
      exact h4 g e.symm hog

theorem do_at2 (w wi : World) (b : Nat) (d : DS) (b' : Nat) (d' : DS) (k : Int) (bs : ByteArray) (h : At2 w b d b' d' wi) (hg : Gl w) (hs : bs.size ≤ maxLen) :
    Calls Tryd.prog 10 #[.pointer (some ⟨b, 0, none⟩), .agg #[.int .i64 k, .string bs]] wi fun e w' =>
      (∃ v, e = .returned (rpV (doDS d k bs.data.toList).2 v) ∧ w'.ownsRow wi.heap.size 3 1 v (doDS d k bs.data.toList).2.out.length (ints (doDS d k bs.data.toList).2.out)) ∧ At2 w b (doDS d k bs.data.toList).1 b' d' w' ∧ Stay wi w' ∧ wi.heap.size ≤ w'.heap.size := by
  obtain ⟨⟨o, o', hd, hd', hne, hoo⟩, ho, ho', hb⟩ := h
  refine (do_any w.heap.size b o d k bs wi hd ho (hg.below hb) (Gb.of hg) hs).mono ?_
  rintro e w' ⟨hv, ⟨o1, hd1, hm1⟩, hk⟩
  have hol := hd'.own_lt
  refine ⟨hv, ⟨⟨o1, o', hd1, hd'.kept hk hne.symm (cross_apart hd hd') (cross_apart hd' hd) hoo, hne, ?_⟩, ho.doDS k _, ho', hb.trans (hk.below hd.low (fun n e => (hd.own_lt n e).1) hb.size)⟩, keep_stay hk hd, hk.size⟩
  intro n hn e
  rcases hm1 with rfl | ⟨m, rfl, hm⟩
  · exact hoo n hn e
  · injection hn with hn
    have := (hol n e).2
    omega

theorem new_at2 (s : ByteArray) (w wi : World) (b : Nat) (d : DS) (h : At w b d wi) (hs : s.size ≤ maxLen) :
    Calls Tryd.prog 22 #[.string s] wi fun e w' => (∃ b', e = .returned (.pointer (some ⟨b', 0, none⟩)) ∧ wi.heap.size ≤ b' ∧ At2 w b d b' (newDS (Pl.find s.data.toList)) w') ∧ Below wi.heap.size wi w' := by
  obtain ⟨⟨o, hd⟩, ho, hb⟩ := h
  refine (detNew_any s wi hs).mono ?_
  rintro e w' ⟨⟨b', rfl, h1, hd'⟩, h2⟩
  have hf := find_range s.data.toList
  have hz := hb.size
  have hlt := hd.lt
  refine ⟨⟨b', rfl, h1, ⟨o, none, hd.below h2 (Nat.le_refl _), ⟨by omega, ?_⟩, by omega, fun n _ e => by cases e⟩, ho, okNew _ hf.1 hf.2, hb.trans (h2.mono hz)⟩, h2⟩
  obtain ⟨v, hv, hown, hvo⟩ := hd'.mem
  exact ⟨v, hv, World.ownsRow.mono hown hz, hvo⟩

set_option maxHeartbeats 1000000 in
theorem bytes_at (w wi : World) (b : Nat) (d : DS) (h : At w b d wi) :
    Calls Tryd.prog 11 #[.pointer (some ⟨b, 0, none⟩)] wi fun e w' => e = .returned (.string ⟨d.bs.toArray⟩) ∧ wi = w' := by
  obtain ⟨⟨o, hd⟩, ho, hb⟩ := h
  obtain ⟨_, v, hblk, hown, _⟩ := hd
  have hlen := ho.len
  have hconv := own_string (P := Tryd.prog) Tryd.underlying51 Tryd.underlying5 Tryd.underlying9 hown
  have c1 : wi.cell? ⟨b, 1, none⟩ = some v := cell_of_row wi b 1 _ _ _ hblk
  clear hown hblk ho hb
  go_enter Tryd.func11, Tryd.ntmps11
  go_wp2
  go_ret
  exact ⟨rfl, rfl⟩

/-- acts in memory: as an argument lists them. -/
def Acts (w : World) (v : Value) (l : List Ac) : Prop :=
  ∃ (a : Option Addr) (c : Nat), v = .slice a l.length c ∧ l.length ≤ maxLen ∧ (∀ x ∈ l, x.2.size ≤ maxLen) ∧ (l = [] ∨ ∃ g off : Nat, a = some ⟨g, off, none⟩ ∧ ∀ (j : Nat) (x : Ac), l[j]? = some x → w.cell? ⟨g, off + j * 2, none⟩ = some (.int .i64 x.1) ∧ w.cell? ⟨g, off + j * 2 + 1, none⟩ = some (.string x.2))
theorem Acts.below {w w' : World} {v : Value} {l : List Ac} (h : Acts w v l) (hb : Below w.heap.size w w') : Acts w' v l := by
  obtain ⟨a, c, rfl, hl, hx, h⟩ := h
  refine ⟨a, c, rfl, hl, hx, ?_⟩
  rcases h with h | ⟨g, off, rfl, h⟩
  · exact .inl h
  · exact .inr ⟨g, off, rfl, fun j x hj => ⟨(hb.cell (p := ⟨g, _, none⟩) (lt_of_cell (h j x hj).1)).trans (h j x hj).1, (hb.cell (p := ⟨g, _, none⟩) (lt_of_cell (h j x hj).2)).trans (h j x hj).2⟩⟩
end Go.Proofs.YtefohnbmifblkabDoor
