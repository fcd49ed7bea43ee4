/-
  Plain functions for label and sniff, on lists of bytes: no program in sight.
-/
import Derived.Lib.IndexAny
import Derived.Lib.SlTrimSet
namespace Go.Proofs.YtefohnbmifblkaaDoor.Pl

/-- a byte as a small letter. -/
def small (c : UInt8) : UInt8 := if 65 ≤ c.toNat ∧ c.toNat ≤ 90 then c + 32 else c
theorem small_up {c : UInt8} (h1 : 65 ≤ c.toNat) (h2 : c.toNat ≤ 90) : (small c).toNat = c.toNat + 32 := by
  unfold small
  rw [if_pos ⟨h1, h2⟩, UInt8.toNat_add]
  show (c.toNat + 32) % 256 = _
  omega
theorem small_no {c : UInt8} (h : ¬ (65 ≤ c.toNat ∧ c.toNat ≤ 90)) : small c = c := by
  unfold small
  rw [if_neg h]

/-- 'charset=' -/
def key : List UInt8 := [99, 104, 97, 114, 115, 101, 116, 61]
/-- does the key's rest stand in front? (is, more) -/
def atK : List UInt8 → List UInt8 → Bool × Bool
  | [], _ => (true, false)
  | _ :: _, [] => (false, true)
  | k :: ks, b :: bs => if small b = k then atK ks bs else (false, false)

def ends : List UInt8 := [32, 9, 10, 13, 59, 34, 39, 62]
/-- value: behind the quote, if there is one. -/
def value2 (e s : List UInt8) : List UInt8 × Bool :=
  if Lib.indexAny s e < 0 ∨ 40 < Lib.indexAny s e then ([], decide (40 < Lib.indexAny s e) || decide (40 < s.length)) else (s.take (Lib.indexAny s e).toNat, true)
def value : List UInt8 → List UInt8 × Bool
  | [] => value2 ends []
  | b :: r => if b = 34 ∨ b = 39 then value2 [b] r else value2 ends (b :: r)

/-- label: -/
def lower (s : List UInt8) : List UInt8 := s.map small
def spaces : List UInt8 := [32, 9, 10, 12, 13]
def trim (s : List UInt8) : List UInt8 := lower (Lib.trimS s spaces)
def names : List (List UInt8 × Int) := [
  ([117, 116, 102, 45, 56], 1), ([117, 116, 102, 56], 1), ([117, 110, 105, 99, 111, 100, 101, 45, 49, 45, 49, 45, 117, 116, 102, 45, 56], 1),
  ([115, 104, 105, 102, 116], 2), ([105, 115, 111, 45, 50, 48, 50, 50], 2),
  ([116, 119, 105, 110], 3), ([120, 45, 116, 119, 105, 110], 3), ([109, 115, 95, 116, 119, 105, 110], 3),
  ([108, 97, 116, 105, 110], 4), ([108, 97, 116, 105, 110, 49], 4), ([97, 115, 99, 105, 105], 4), ([117, 115, 45, 97, 115, 99, 105, 105], 4), ([119, 105, 110, 100, 111, 119, 115, 45, 49, 50, 53, 50], 4),
  ([117, 116, 102, 45, 49, 54], 5), ([117, 116, 102, 45, 49, 54, 108, 101], 5),
  ([117, 116, 102, 45, 49, 54, 98, 101], 6)]
def look (t : List UInt8) : List (List UInt8 × Int) → Int
  | [] => 0
  | p :: r => if t = p.1 then p.2 else look t r
def find (s : List UInt8) : Int := if 40 < s.length then 0 else look (trim s) names

/-- sniff.Label behind the cut. -/
def labelIn (whole : Bool) : List UInt8 → Int × Bool
  | [] => (0, whole)
  | b :: r =>
    if (atK key (b :: r)).2 = true then (0, whole)
    else if (atK key (b :: r)).1 = false then labelIn whole r
    else if (value ((b :: r).drop 8)).2 = false then (0, whole)
    else if find (value ((b :: r).drop 8)).1 = 0 then labelIn whole r
    else if find (value ((b :: r).drop 8)).1 = 5 ∨ find (value ((b :: r).drop 8)).1 = 6 then (1, true)
    else (find (value ((b :: r).drop 8)).1, true)
def label (s : List UInt8) : Int × Bool := labelIn (decide (256 ≤ s.length)) (s.take 256)

/-- sniff.Mark. -/
def mark (s : List UInt8) : Int × Int :=
  if [239, 187, 191].isPrefixOf s = true then (1, 3)
  else if [255, 254].isPrefixOf s = true then (5, 2)
  else if [254, 255].isPrefixOf s = true then (6, 2)
  else (0, 0)
def may1 (m s : List UInt8) : Bool := decide (s.length < m.length) && (m.take s.length == s)
def mayMark (s : List UInt8) : Bool := may1 [239, 187, 191] s || may1 [255, 254] s || may1 [254, 255] s
end Go.Proofs.YtefohnbmifblkaaDoor.Pl

/-
  Plain laws of the plain functions mark, mayMark and label: what cannot change any more does not change, whatever bytes come; behind the window nothing is looked at.
-/
namespace Go.Proofs.YtefohnbmifblkaaDoor.Pl

theorem labelIn_true : ∀ l : List UInt8, (labelIn true l).2 = true
  | [] => rfl
  | b :: r => by
    have ih := labelIn_true r
    unfold labelIn
    repeat' split
    all_goals first | rfl | exact ih

theorem labelIn_sure (B : Bool) : ∀ l : List UInt8, (labelIn B l).1 = 0 ∨ (labelIn B l).2 = true
  | [] => .inl rfl
  | b :: r => by
    have ih := labelIn_sure B r
    unfold labelIn
    repeat' split
    all_goals first | exact .inl rfl | exact .inr rfl | exact ih

theorem label_window (s t : List UInt8) (h : 256 ≤ s.length) : label (s.take 256 ++ t) = label (s.take 256) ∧ (label (s.take 256)).2 = true := by
  have h1 : (s.take 256).length = 256 := by simp; omega
  have e1 : label (s.take 256) = labelIn true (s.take 256) := by
    unfold label
    rw [h1, List.take_of_length_le (by omega)]
    rfl
  have e2 : label (s.take 256 ++ t) = labelIn true (s.take 256) := by
    unfold label
    rw [List.take_append_of_le_length (by omega), List.take_of_length_le (l := s.take 256) (by omega), List.length_append, h1, decide_eq_true (by omega)]
  rw [e1, e2]
  exact ⟨rfl, labelIn_true _⟩

theorem atK_more : ∀ (k l t : List UInt8), (atK k l).2 = false → atK k (l ++ t) = atK k l
  | [], l, t, _ => by cases l <;> cases t <;> rfl
  | a :: k, [], t, h => by cases h
  | a :: k, b :: l, t, h => by
    rw [List.cons_append]
    unfold atK at h ⊢
    split
    · rename_i e
      rw [if_pos e] at h
      exact atK_more k l t h
    · rfl

theorem indexAny_front (c : List UInt8) : ∀ l t : List UInt8, 0 ≤ Lib.indexAny l c → Lib.indexAny (l ++ t) c = Lib.indexAny l c
  | [], t, h => absurd h (by show ¬ (0 : Int) ≤ -1; omega)
  | b :: l, t, h => by
    have hge := Lib.indexAny_ge c l
    have ih := indexAny_front c l t
    rw [List.cons_append]
    unfold Lib.indexAny at h ⊢
    by_cases hb : c.contains b = true
    · rw [if_pos hb, if_pos hb]
    · rw [if_neg hb] at h
      rw [if_neg hb, if_neg hb]
      by_cases h1 : (Lib.indexAny l c == -1) = true
      · rw [if_pos h1] at h; omega
      · have h2 : Lib.indexAny l c ≠ -1 := fun e => h1 (beq_iff_eq.2 e)
        rw [ih (by omega)]
theorem indexAny_back (c : List UInt8) : ∀ l t : List UInt8, Lib.indexAny l c < 0 → Lib.indexAny (l ++ t) c < 0 ∨ (l.length : Int) ≤ Lib.indexAny (l ++ t) c
  | [], t, _ => by
    rw [List.nil_append]
    show _ ∨ (0 : Int) ≤ _
    omega
  | b :: l, t, h => by
    have hge := Lib.indexAny_ge c l
    have ih := indexAny_back c l t
    rw [List.cons_append]
    unfold Lib.indexAny at h ⊢
    by_cases hb : c.contains b = true
    · rw [if_pos hb] at h; omega
    · rw [if_neg hb] at h
      rw [if_neg hb]
      have h0 : Lib.indexAny l c < 0 := by
        split at h
        · rename_i e
          have := beq_iff_eq.1 e
          omega
        · omega
      have := ih h0
      have hge2 := Lib.indexAny_ge c (l ++ t)
      rw [List.length_cons]
      split
      · omega
      · rename_i e
        have : Lib.indexAny (l ++ t) c ≠ -1 := fun x => e (beq_iff_eq.2 x)
        omega

theorem value2_more (e u t : List UInt8) (h : (value2 e u).2 = true) : value2 e (u ++ t) = value2 e u := by
  have hge := Lib.indexAny_ge e u
  unfold value2 at h
  by_cases h0 : 0 ≤ Lib.indexAny u e
  · unfold value2
    rw [indexAny_front e u t h0]
    by_cases h1 : Lib.indexAny u e < 0 ∨ 40 < Lib.indexAny u e
    · rw [if_pos h1, if_pos h1, decide_eq_true (show 40 < Lib.indexAny u e by omega), Bool.true_or, Bool.true_or]
    · rw [if_neg h1, if_neg h1]
      have hlt : (Lib.indexAny u e).toNat ≤ u.length := by
        have : ∀ l : List UInt8, Lib.indexAny l e < l.length := by
          intro l
          induction l with
          | nil => show (-1 : Int) < 0; omega
          | cons b l ih =>
            unfold Lib.indexAny
            rw [List.length_cons]
            split
            · omega
            · split <;> omega
        have := this u
        omega
      rw [List.take_append_of_le_length hlt]
  · rw [if_pos (.inl (by omega))] at h
    rw [decide_eq_false (show ¬ 40 < Lib.indexAny u e by omega), Bool.false_or] at h
    have hu : 40 < u.length := of_decide_eq_true h
    have e1 : value2 e u = ([], true) := by
      unfold value2
      rw [if_pos (.inl (by omega)), decide_eq_false (show ¬ 40 < Lib.indexAny u e by omega), Bool.false_or, decide_eq_true hu]
    rw [e1]
    unfold value2
    rcases indexAny_back e u t (by omega) with h1 | h1
    · rw [if_pos (.inl h1), decide_eq_true (show 40 < (u ++ t).length by rw [List.length_append]; omega), Bool.or_true]
    · rw [if_pos (.inr (by omega)), decide_eq_true (show 40 < Lib.indexAny (u ++ t) e by omega), Bool.true_or]

theorem value_cons (b : UInt8) (r : List UInt8) : value (b :: r) = if b = 34 ∨ b = 39 then value2 [b] r else value2 ends (b :: r) := rfl
theorem value_more (u t : List UInt8) (h : (value u).2 = true) : value (u ++ t) = value u := by
  cases u with
  | nil => cases h
  | cons b r =>
    rw [List.cons_append]
    rw [value_cons] at h
    rw [value_cons, value_cons]
    by_cases hq : b = 34 ∨ b = 39
    · rw [if_pos hq] at h
      rw [if_pos hq, if_pos hq]
      exact value2_more _ _ _ h
    · rw [if_neg hq] at h
      rw [if_neg hq, if_neg hq, ← List.cons_append]
      exact value2_more _ _ _ h

theorem atK_len : ∀ (k l : List UInt8), (atK k l).1 = true → k.length ≤ l.length
  | [], _, _ => Nat.zero_le _
  | _ :: _, [], h => by cases h
  | a :: k, b :: l, h => by
    unfold atK at h
    split at h
    · have := atK_len k l h
      simpa using this
    · cases h

theorem labelIn_more' (B' : Bool) (t : List UInt8) : ∀ l : List UInt8, (labelIn false l).2 = true → labelIn B' (l ++ t) = labelIn false l
  | [], h => by cases h
  | b :: r, h => by
    have ih := labelIn_more' B' t r
    rw [List.cons_append]
    unfold labelIn at h ⊢
    by_cases h1 : (atK key (b :: r)).2 = true
    · rw [if_pos h1] at h; cases h
    · rw [if_neg h1] at h
      have ha := atK_more key (b :: r) t (by simpa using h1)
      rw [List.cons_append] at ha
      rw [ha, if_neg h1, if_neg h1]
      by_cases h2 : (atK key (b :: r)).1 = false
      · rw [if_pos h2] at h
        rw [if_pos h2, if_pos h2]
        exact ih h
      · rw [if_neg h2] at h
        rw [if_neg h2, if_neg h2]
        have hlen := atK_len key (b :: r) (by simpa using h2)
        have hd : (b :: (r ++ t)).drop 8 = (b :: r).drop 8 ++ t := by
          rw [← List.cons_append, List.drop_append_of_le_length (by simpa [key] using hlen)]
        by_cases h3 : (value ((b :: r).drop 8)).2 = false
        · rw [if_pos h3] at h; cases h
        · rw [if_neg h3] at h
          have hv := value_more ((b :: r).drop 8) t (by simpa using h3)
          rw [hd, hv, if_neg h3, if_neg h3]
          by_cases h4 : find (value ((b :: r).drop 8)).1 = 0
          · rw [if_pos h4] at h
            rw [if_pos h4, if_pos h4]
            exact ih h
          · rw [if_neg h4, if_neg h4]

theorem label_stays (s t : List UInt8) (h : (label s).2 = true) : label (s ++ t) = label s := by
  by_cases hs : 256 ≤ s.length
  · unfold label
    rw [List.take_append_of_le_length hs, List.length_append, decide_eq_true hs, decide_eq_true (by omega)]
  · have e1 : label s = labelIn false s := by
      unfold label
      rw [decide_eq_false hs, List.take_of_length_le (by omega)]
    rw [e1] at h ⊢
    unfold label
    rw [List.take_append, List.take_of_length_le (l := s) (by omega)]
    exact labelIn_more' _ _ s h
theorem label_sure (s : List UInt8) : (label s).1 = 0 ∨ (label s).2 = true := labelIn_sure _ _

theorem prefix3 (x y z a b c : UInt8) (r : List UInt8) : [x, y, z].isPrefixOf (a :: b :: c :: r) = ((x == a) && ((y == b) && (z == c))) := by
  simp [List.isPrefixOf]
theorem prefix2 (x y a b : UInt8) (r : List UInt8) : [x, y].isPrefixOf (a :: b :: r) = ((x == a) && (y == b)) := by
  simp [List.isPrefixOf]

theorem may1_long {m s : List UInt8} (h : m.length ≤ s.length) : may1 m s = false := by
  unfold may1
  rw [decide_eq_false (by omega), Bool.false_and]
theorem may1_head {x a : UInt8} {m s : List UInt8} (h : x ≠ a) : may1 (x :: m) (a :: s) = false := by
  unfold may1
  rw [List.length_cons, List.take_succ_cons]
  have : (x :: m.take s.length == a :: s) = false := by
    rw [beq_eq_false_iff_ne]
    intro e
    injection e with e
    exact h e
  rw [List.length_cons, this, Bool.and_false]
theorem mayMark_long {s : List UInt8} (h : 3 ≤ s.length) : mayMark s = false := by
  unfold mayMark
  rw [may1_long (by simpa using h), may1_long (by simp; omega), may1_long (by simp; omega)]
  rfl
theorem mayMark_head {a : UInt8} {s : List UInt8} (h1 : a ≠ 239) (h2 : a ≠ 255) (h3 : a ≠ 254) : mayMark (a :: s) = false := by
  unfold mayMark
  rw [may1_head h1.symm, may1_head h2.symm, may1_head h3.symm]
  rfl

/-- Once there is a mark, or there may be none, that stays. -/
theorem mark_stays (s t : List UInt8) (h : (mark s).1 ≠ 0 ∨ mayMark s = false) : mark (s ++ t) = mark s ∧ mayMark (s ++ t) = false := by
  match s with
  | [] => exact absurd h (by decide)
  | [a] =>
    by_cases h1 : a = 239
    · subst h1; exact absurd h (by decide)
    · by_cases h2 : a = 255
      · subst h2; exact absurd h (by decide)
      · by_cases h3 : a = 254
        · subst h3; exact absurd h (by decide)
        · have e1 : ((239 : UInt8) == a) = false := by simpa using fun e => h1 e.symm
          have e2 : ((255 : UInt8) == a) = false := by simpa using fun e => h2 e.symm
          have e3 : ((254 : UInt8) == a) = false := by simpa using fun e => h3 e.symm
          exact ⟨by simp [mark, List.isPrefixOf, e1, e2, e3], mayMark_head h1 h2 h3⟩
  | [a, b] =>
    by_cases h1 : a = 239 ∧ b = 187
    · obtain ⟨rfl, rfl⟩ := h1
      exact absurd h (by decide)
    · have e1 : ((239 : UInt8) == a && (187 : UInt8) == b) = false := by
        rw [Bool.eq_false_iff]
        intro e
        simp at e
        exact h1 ⟨e.1.symm, e.2.symm⟩
      refine ⟨?_, ?_⟩
      · cases t with
        | nil => rw [List.append_nil]
        | cons c r =>
          have e3 : [(239 : UInt8), 187, 191].isPrefixOf [a, b] = false := by simp [List.isPrefixOf]
          have e4 : [(239 : UInt8), 187, 191].isPrefixOf (a :: b :: c :: r) = false := by
            rw [prefix3, ← Bool.and_assoc, e1, Bool.false_and]
          show mark (a :: b :: c :: r) = mark [a, b]
          unfold mark
          rw [e3, e4, prefix2, prefix2, prefix2, prefix2]
      · cases t with
        | nil =>
          simp [mayMark, may1]
          intro x y
          exact h1 ⟨x.symm, y.symm⟩
        | cons c r => exact mayMark_long (by simp)
  | a :: b :: c :: r =>
    refine ⟨?_, mayMark_long (by simp)⟩
    show mark (a :: b :: c :: (r ++ t)) = mark (a :: b :: c :: r)
    unfold mark
    rw [prefix3, prefix3, prefix2, prefix2, prefix2, prefix2]
end Go.Proofs.YtefohnbmifblkaaDoor.Pl

/-
  Plain laws that the walk of the references' LabelOf wants: the key by small letters; a value by the place of its end.
-/
namespace Go.Proofs.YtefohnbmifblkaaDoor.Pl

theorem atK_low : ∀ k l : List UInt8, atK k l = if k.isPrefixOf (lower l) = true then (true, false) else if (lower l).isPrefixOf k = true then (false, true) else (false, false)
  | [], l => by
    cases l <;> simp [atK, lower]
  | a :: k, [] => by simp [atK, lower]
  | a :: k, b :: l => by
    have ih := atK_low k l
    unfold atK
    have e : lower (b :: l) = small b :: lower l := rfl
    rw [e]
    by_cases h : small b = a
    · rw [if_pos h, ih]
      subst h
      simp [List.isPrefixOf]
    · rw [if_neg h]
      have h1 : (a == small b) = false := by rw [beq_eq_false_iff_ne]; exact fun x => h x.symm
      have h2 : (small b == a) = false := by rw [beq_eq_false_iff_ne]; exact h
      simp [List.isPrefixOf, h1, h2]

theorem lower_len (l : List UInt8) : (lower l).length = l.length := by simp [lower]

/-- few bytes: the key may stand there, or not. -/
theorem atK_few {l : List UInt8} (h : l.length < 8) : atK key l = if (lower l).isPrefixOf key = true then (false, true) else (false, false) := by
  rw [atK_low, if_neg]
  intro hp
  have := (List.isPrefixOf_iff_prefix.1 hp).length_le
  rw [lower_len] at this
  simp [key] at this
  omega
/-- eight bytes and more. -/
theorem atK_many {l : List UInt8} (h : 8 ≤ l.length) : atK key l = if (lower l).take 8 = key then (true, false) else (false, false) := by
  rw [atK_low]
  have hl : 8 ≤ (lower l).length := by rw [lower_len]; exact h
  by_cases hk : (lower l).take 8 = key
  · rw [if_pos hk, if_pos]
    rw [List.isPrefixOf_iff_prefix, List.prefix_iff_eq_take]
    exact hk.symm
  · rw [if_neg hk, if_neg, if_neg]
    · intro hp
      have h1 := List.isPrefixOf_iff_prefix.1 hp
      have h2 := h1.length_le
      have h3 : key.length = 8 := rfl
      have h4 : lower l = key := h1.eq_of_length (by omega)
      apply hk
      rw [h4]
      rfl
    · intro hp
      have h1 := List.prefix_iff_eq_take.1 (List.isPrefixOf_iff_prefix.1 hp)
      exact hk h1.symm

theorem look_range : ∀ (t : List UInt8) (l : List (List UInt8 × Int)), (∀ p ∈ l, 0 ≤ p.2 ∧ p.2 ≤ 6) → 0 ≤ look t l ∧ look t l ≤ 6
  | t, [], _ => ⟨by show (0 : Int) ≤ 0; omega, by show (0 : Int) ≤ 6; omega⟩
  | t, p :: r, h => by
    unfold look
    split
    · exact h p (by simp)
    · exact look_range t r fun q hq => h q (by simp [hq])
theorem find_range (s : List UInt8) : 0 ≤ find s ∧ find s ≤ 6 := by
  unfold find
  split
  · omega
  · exact look_range _ _ (by decide)
theorem find_nil : find [] = 0 := by decide +kernel

/-- behind the quote, if there is one: what ends the value, and where it is looked for. -/
def front (u : List UInt8) : List UInt8 × List UInt8 := match u with
  | [] => (ends, [])
  | b :: r => if b = 34 ∨ b = 39 then ([b], r) else (ends, b :: r)
theorem value_front (u : List UInt8) : value u = value2 (front u).1 (front u).2 := by
  cases u with
  | nil => rfl
  | cons b r =>
    rw [value_cons]
    show _ = value2 (if _ then _ else _ : List UInt8 × List UInt8).1 (if _ then _ else _ : List UInt8 × List UInt8).2
    split <;> rfl
theorem front_len (u : List UInt8) : (front u).2.length ≤ u.length := by
  cases u with
  | nil => exact Nat.le_refl _
  | cons b r =>
    show (if _ then _ else _ : List UInt8 × List UInt8).2.length ≤ _
    split <;> simp

theorem v2_hit {e v : List UInt8} {n : Nat} {x : UInt8} (h : Lib.NoAny v e n) (hx : v[n]? = some x) (hc : e.contains x = true) (hn : n ≤ 40) : value2 e v = (v.take n, true) := by
  unfold value2
  rw [Lib.indexAny_hit h hx hc, if_neg (by omega)]
  simp
theorem v2_open {e v : List UInt8} (h : Lib.NoAny v e v.length) (hn : v.length ≤ 40) : value2 e v = ([], false) := by
  unfold value2
  rw [Lib.indexAny_none h, if_pos (.inl (by omega)), decide_eq_false (by omega), decide_eq_false (by omega)]
  rfl
theorem v2_far {e v : List UInt8} {n : Nat} (h : Lib.NoAny v e n) (hn : 40 < n) (hl : n ≤ v.length) : value2 e v = ([], true) := by
  unfold value2
  have h1 : Lib.indexAny v e < 0 ∨ (n : Int) ≤ Lib.indexAny v e := by
    by_cases h0 : Lib.indexAny v e < 0
    · exact .inl h0
    · refine .inr ?_
      have hge := Lib.indexAny_ge e v
      have key : ∀ (l : List UInt8) (m : Nat), Lib.NoAny l e m → 0 ≤ Lib.indexAny l e → (m : Int) ≤ Lib.indexAny l e := by
        intro l
        induction l with
        | nil => intro m _ h; exact absurd h (by show ¬ (0 : Int) ≤ -1; omega)
        | cons b l ih =>
          intro m hm h
          cases m with
          | zero => omega
          | succ m =>
            have hb : e.contains b = false := hm 0 b (by omega) rfl
            have hm' : Lib.NoAny l e m := fun j y hj hy => hm (j + 1) y (by omega) (by simpa using hy)
            unfold Lib.indexAny at h ⊢
            rw [if_neg (by rw [hb]; simp)] at h ⊢
            have hge := Lib.indexAny_ge e l
            by_cases h1 : (Lib.indexAny l e == -1) = true
            · rw [if_pos h1] at h; omega
            · rw [if_neg h1]
              have h2 : Lib.indexAny l e ≠ -1 := fun x => h1 (beq_iff_eq.2 x)
              have := ih m hm' (by omega)
              omega
      exact key v n h (by omega)
  rw [if_pos (by omega)]
  rcases h1 with h1 | h1
  · rw [decide_eq_true (show 40 < v.length by omega), Bool.or_true]
  · rw [decide_eq_true (show 40 < Lib.indexAny v e by omega), Bool.true_or]
end Go.Proofs.YtefohnbmifblkaaDoor.Pl
