/-
  Plain laws of the plain functions mark, mayMark and label: what cannot change any more does not change, whatever bytes come; behind the window nothing is looked at.
-/
import Derived.Test.YtefohnbmifblkaaDoorPlA
namespace Go.Proofs.YtefohnbmifblkaaDoor.Pl

theorem labelIn_true : ∀ l : List UInt8, (labelIn true l).2 = true
  | [] => rfl
  | b :: r => by
    have ih := labelIn_true r
    unfold labelIn
    repeat' split
    all_goals first | rfl | exact ih

theorem labelIn_sure (B : Bool) : ∀ l : List UInt8, (labelIn B l).1 = 0 ∨ (labelIn B l).2 = true
  | [] => .inl rfl
  | b :: r => by
    have ih := labelIn_sure B r
    unfold labelIn
    repeat' split
    all_goals first | exact .inl rfl | exact .inr rfl | exact ih

theorem label_window (s t : List UInt8) (h : 256 ≤ s.length) : label (s.take 256 ++ t) = label (s.take 256) ∧ (label (s.take 256)).2 = true := by
  have h1 : (s.take 256).length = 256 := by simp; omega
  have e1 : label (s.take 256) = labelIn true (s.take 256) := by
    unfold label
    rw [h1, List.take_of_length_le (by omega)]
    rfl
  have e2 : label (s.take 256 ++ t) = labelIn true (s.take 256) := by
    unfold label
    rw [List.take_append_of_le_length (by omega), List.take_of_length_le (l := s.take 256) (by omega), List.length_append, h1, decide_eq_true (by omega)]
  rw [e1, e2]
  exact ⟨rfl, labelIn_true _⟩

theorem atK_more : ∀ (k l t : List UInt8), (atK k l).2 = false → atK k (l ++ t) = atK k l
  | [], l, t, _ => by cases l <;> cases t <;> rfl
  | a :: k, [], t, h => by cases h
  | a :: k, b :: l, t, h => by
    rw [List.cons_append]
    unfold atK at h ⊢
    split
    · rename_i e
      rw [if_pos e] at h
      exact atK_more k l t h
    · rfl

theorem indexAny_front (c : List UInt8) : ∀ l t : List UInt8, 0 ≤ Lib.indexAny l c → Lib.indexAny (l ++ t) c = Lib.indexAny l c
  | [], t, h => absurd h (by show ¬ (0 : Int) ≤ -1; omega)
  | b :: l, t, h => by
    have hge := Lib.indexAny_ge c l
    have ih := indexAny_front c l t
    rw [List.cons_append]
    unfold Lib.indexAny at h ⊢
    by_cases hb : c.contains b = true
    · rw [if_pos hb, if_pos hb]
    · rw [if_neg hb] at h
      rw [if_neg hb, if_neg hb]
      by_cases h1 : (Lib.indexAny l c == -1) = true
      · rw [if_pos h1] at h; omega
      · have h2 : Lib.indexAny l c ≠ -1 := fun e => h1 (beq_iff_eq.2 e)
        rw [ih (by omega)]
theorem indexAny_back (c : List UInt8) : ∀ l t : List UInt8, Lib.indexAny l c < 0 → Lib.indexAny (l ++ t) c < 0 ∨ (l.length : Int) ≤ Lib.indexAny (l ++ t) c
  | [], t, _ => by
    rw [List.nil_append]
    show _ ∨ (0 : Int) ≤ _
    omega
  | b :: l, t, h => by
    have hge := Lib.indexAny_ge c l
    have ih := indexAny_back c l t
    rw [List.cons_append]
    unfold Lib.indexAny at h ⊢
    by_cases hb : c.contains b = true
    · rw [if_pos hb] at h; omega
    · rw [if_neg hb] at h
      rw [if_neg hb]
      have h0 : Lib.indexAny l c < 0 := by
        split at h
        · rename_i e
          have := beq_iff_eq.1 e
          omega
        · omega
      have := ih h0
      have hge2 := Lib.indexAny_ge c (l ++ t)
      rw [List.length_cons]
      split
      · omega
      · rename_i e
        have : Lib.indexAny (l ++ t) c ≠ -1 := fun x => e (beq_iff_eq.2 x)
        omega

theorem value2_more (e u t : List UInt8) (h : (value2 e u).2 = true) : value2 e (u ++ t) = value2 e u := by
  have hge := Lib.indexAny_ge e u
  unfold value2 at h
  by_cases h0 : 0 ≤ Lib.indexAny u e
  · unfold value2
    rw [indexAny_front e u t h0]
    by_cases h1 : Lib.indexAny u e < 0 ∨ 40 < Lib.indexAny u e
    · rw [if_pos h1, if_pos h1, decide_eq_true (show 40 < Lib.indexAny u e by omega), Bool.true_or, Bool.true_or]
    · rw [if_neg h1, if_neg h1]
      have hlt : (Lib.indexAny u e).toNat ≤ u.length := by
        have : ∀ l : List UInt8, Lib.indexAny l e < l.length := by
          intro l
          induction l with
          | nil => show (-1 : Int) < 0; omega
          | cons b l ih =>
            unfold Lib.indexAny
            rw [List.length_cons]
            split
            · omega
            · split <;> omega
        have := this u
        omega
      rw [List.take_append_of_le_length hlt]
  · rw [if_pos (.inl (by omega))] at h
    rw [decide_eq_false (show ¬ 40 < Lib.indexAny u e by omega), Bool.false_or] at h
    have hu : 40 < u.length := of_decide_eq_true h
    have e1 : value2 e u = ([], true) := by
      unfold value2
      rw [if_pos (.inl (by omega)), decide_eq_false (show ¬ 40 < Lib.indexAny u e by omega), Bool.false_or, decide_eq_true hu]
    rw [e1]
    unfold value2
    rcases indexAny_back e u t (by omega) with h1 | h1
    · rw [if_pos (.inl h1), decide_eq_true (show 40 < (u ++ t).length by rw [List.length_append]; omega), Bool.or_true]
    · rw [if_pos (.inr (by omega)), decide_eq_true (show 40 < Lib.indexAny (u ++ t) e by omega), Bool.true_or]

theorem value_cons (b : UInt8) (r : List UInt8) : value (b :: r) = if b = 34 ∨ b = 39 then value2 [b] r else value2 ends (b :: r) := rfl
theorem value_more (u t : List UInt8) (h : (value u).2 = true) : value (u ++ t) = value u := by
  cases u with
  | nil => cases h
  | cons b r =>
    rw [List.cons_append]
    rw [value_cons] at h
    rw [value_cons, value_cons]
    by_cases hq : b = 34 ∨ b = 39
    · rw [if_pos hq] at h
      rw [if_pos hq, if_pos hq]
      exact value2_more _ _ _ h
    · rw [if_neg hq] at h
      rw [if_neg hq, if_neg hq, ← List.cons_append]
      exact value2_more _ _ _ h

theorem atK_len : ∀ (k l : List UInt8), (atK k l).1 = true → k.length ≤ l.length
  | [], _, _ => Nat.zero_le _
  | _ :: _, [], h => by cases h
  | a :: k, b :: l, h => by
    unfold atK at h
    split at h
    · have := atK_len k l h
      simpa using this
    · cases h

theorem labelIn_more' (B' : Bool) (t : List UInt8) : ∀ l : List UInt8, (labelIn false l).2 = true → labelIn B' (l ++ t) = labelIn false l
  | [], h => by cases h
  | b :: r, h => by
    have ih := labelIn_more' B' t r
    rw [List.cons_append]
    unfold labelIn at h ⊢
    by_cases h1 : (atK key (b :: r)).2 = true
    · rw [if_pos h1] at h; cases h
    · rw [if_neg h1] at h
      have ha := atK_more key (b :: r) t (by simpa using h1)
      rw [List.cons_append] at ha
      rw [ha, if_neg h1, if_neg h1]
      by_cases h2 : (atK key (b :: r)).1 = false
      · rw [if_pos h2] at h
        rw [if_pos h2, if_pos h2]
        exact ih h
      · rw [if_neg h2] at h
        rw [if_neg h2, if_neg h2]
        have hlen := atK_len key (b :: r) (by simpa using h2)
        have hd : (b :: (r ++ t)).drop 8 = (b :: r).drop 8 ++ t := by
          rw [← List.cons_append, List.drop_append_of_le_length (by simpa [key] using hlen)]
        by_cases h3 : (value ((b :: r).drop 8)).2 = false
        · rw [if_pos h3] at h; cases h
        · rw [if_neg h3] at h
          have hv := value_more ((b :: r).drop 8) t (by simpa using h3)
          rw [hd, hv, if_neg h3, if_neg h3]
          by_cases h4 : find (value ((b :: r).drop 8)).1 = 0
          · rw [if_pos h4] at h
            rw [if_pos h4, if_pos h4]
            exact ih h
          · rw [if_neg h4, if_neg h4]

theorem label_stays (s t : List UInt8) (h : (label s).2 = true) : label (s ++ t) = label s := by
  by_cases hs : 256 ≤ s.length
  · unfold label
    rw [List.take_append_of_le_length hs, List.length_append, decide_eq_true hs, decide_eq_true (by omega)]
  · have e1 : label s = labelIn false s := by
      unfold label
      rw [decide_eq_false hs, List.take_of_length_le (by omega)]
    rw [e1] at h ⊢
    unfold label
    rw [List.take_append, List.take_of_length_le (l := s) (by omega)]
    exact labelIn_more' _ _ s h
theorem label_sure (s : List UInt8) : (label s).1 = 0 ∨ (label s).2 = true := labelIn_sure _ _

theorem prefix3 (x y z a b c : UInt8) (r : List UInt8) : [x, y, z].isPrefixOf (a :: b :: c :: r) = ((x == a) && ((y == b) && (z == c))) := by
  simp [List.isPrefixOf]
theorem prefix2 (x y a b : UInt8) (r : List UInt8) : [x, y].isPrefixOf (a :: b :: r) = ((x == a) && (y == b)) := by
  simp [List.isPrefixOf]

theorem may1_long {m s : List UInt8} (h : m.length ≤ s.length) : may1 m s = false := by
  unfold may1
  rw [decide_eq_false (by omega), Bool.false_and]
theorem may1_head {x a : UInt8} {m s : List UInt8} (h : x ≠ a) : may1 (x :: m) (a :: s) = false := by
  unfold may1
  rw [List.length_cons, List.take_succ_cons]
  have : (x :: m.take s.length == a :: s) = false := by
    rw [beq_eq_false_iff_ne]
    intro e
    injection e with e
    exact h e
  rw [List.length_cons, this, Bool.and_false]
theorem mayMark_long {s : List UInt8} (h : 3 ≤ s.length) : mayMark s = false := by
  unfold mayMark
  rw [may1_long (by simpa using h), may1_long (by simp; omega), may1_long (by simp; omega)]
  rfl
theorem mayMark_head {a : UInt8} {s : List UInt8} (h1 : a ≠ 239) (h2 : a ≠ 255) (h3 : a ≠ 254) : mayMark (a :: s) = false := by
  unfold mayMark
  rw [may1_head h1.symm, may1_head h2.symm, may1_head h3.symm]
  rfl

/-- Once there is a mark, or there may be none, that stays. -/
theorem mark_stays (s t : List UInt8) (h : (mark s).1 ≠ 0 ∨ mayMark s = false) : mark (s ++ t) = mark s ∧ mayMark (s ++ t) = false := by
  match s with
  | [] => exact absurd h (by decide)
  | [a] =>
    by_cases h1 : a = 239
    · subst h1; exact absurd h (by decide)
    · by_cases h2 : a = 255
      · subst h2; exact absurd h (by decide)
      · by_cases h3 : a = 254
        · subst h3; exact absurd h (by decide)
        · have e1 : ((239 : UInt8) == a) = false := by simpa using fun e => h1 e.symm
          have e2 : ((255 : UInt8) == a) = false := by simpa using fun e => h2 e.symm
          have e3 : ((254 : UInt8) == a) = false := by simpa using fun e => h3 e.symm
          exact ⟨by simp [mark, List.isPrefixOf, e1, e2, e3], mayMark_head h1 h2 h3⟩
  | [a, b] =>
    by_cases h1 : a = 239 ∧ b = 187
    · obtain ⟨rfl, rfl⟩ := h1
      exact absurd h (by decide)
    · have e1 : ((239 : UInt8) == a && (187 : UInt8) == b) = false := by
        rw [Bool.eq_false_iff]
        intro e
        simp at e
        exact h1 ⟨e.1.symm, e.2.symm⟩
      refine ⟨?_, ?_⟩
      · cases t with
        | nil => rw [List.append_nil]
        | cons c r =>
          have e3 : [(239 : UInt8), 187, 191].isPrefixOf [a, b] = false := by simp [List.isPrefixOf]
          have e4 : [(239 : UInt8), 187, 191].isPrefixOf (a :: b :: c :: r) = false := by
            rw [prefix3, ← Bool.and_assoc, e1, Bool.false_and]
          show mark (a :: b :: c :: r) = mark [a, b]
          unfold mark
          rw [e3, e4, prefix2, prefix2, prefix2, prefix2]
      · cases t with
        | nil =>
          simp [mayMark, may1]
          intro x y
          exact h1 ⟨x.symm, y.symm⟩
        | cons c r => exact mayMark_long (by simp)
  | a :: b :: c :: r =>
    refine ⟨?_, mayMark_long (by simp)⟩
    show mark (a :: b :: c :: (r ++ t)) = mark (a :: b :: c :: r)
    unfold mark
    rw [prefix3, prefix3, prefix2, prefix2, prefix2, prefix2]
end Go.Proofs.YtefohnbmifblkaaDoor.Pl
