/-
  Plain laws that the walk of the references' LabelOf wants: the key by small letters; a value by the place of its end.
-/
import Derived.Test.YtefohnbmifblkaaDoorPlB
namespace Go.Proofs.YtefohnbmifblkaaDoor.Pl

theorem atK_low : ∀ k l : List UInt8, atK k l = if k.isPrefixOf (lower l) = true then (true, false) else if (lower l).isPrefixOf k = true then (false, true) else (false, false)
  | [], l => by
    cases l <;> simp [atK, lower]
  | a :: k, [] => by simp [atK, lower]
  | a :: k, b :: l => by
    have ih := atK_low k l
    unfold atK
    have e : lower (b :: l) = small b :: lower l := rfl
    rw [e]
    by_cases h : small b = a
    · rw [if_pos h, ih]
      subst h
      simp [List.isPrefixOf]
    · rw [if_neg h]
      have h1 : (a == small b) = false := by rw [beq_eq_false_iff_ne]; exact fun x => h x.symm
      have h2 : (small b == a) = false := by rw [beq_eq_false_iff_ne]; exact h
      simp [List.isPrefixOf, h1, h2]

theorem lower_len (l : List UInt8) : (lower l).length = l.length := by simp [lower]

/-- few bytes: the key may stand there, or not. -/
theorem atK_few {l : List UInt8} (h : l.length < 8) : atK key l = if (lower l).isPrefixOf key = true then (false, true) else (false, false) := by
  rw [atK_low, if_neg]
  intro hp
  have := (List.isPrefixOf_iff_prefix.1 hp).length_le
  rw [lower_len] at this
  simp [key] at this
  omega
/-- eight bytes and more. -/
theorem atK_many {l : List UInt8} (h : 8 ≤ l.length) : atK key l = if (lower l).take 8 = key then (true, false) else (false, false) := by
  rw [atK_low]
  have hl : 8 ≤ (lower l).length := by rw [lower_len]; exact h
  by_cases hk : (lower l).take 8 = key
  · rw [if_pos hk, if_pos]
    rw [List.isPrefixOf_iff_prefix, List.prefix_iff_eq_take]
    exact hk.symm
  · rw [if_neg hk, if_neg, if_neg]
    · intro hp
      have h1 := List.isPrefixOf_iff_prefix.1 hp
      have h2 := h1.length_le
      have h3 : key.length = 8 := rfl
      have h4 : lower l = key := h1.eq_of_length (by omega)
      apply hk
      rw [h4]
      rfl
    · intro hp
      have h1 := List.prefix_iff_eq_take.1 (List.isPrefixOf_iff_prefix.1 hp)
      exact hk h1.symm

theorem look_range : ∀ (t : List UInt8) (l : List (List UInt8 × Int)), (∀ p ∈ l, 0 ≤ p.2 ∧ p.2 ≤ 6) → 0 ≤ look t l ∧ look t l ≤ 6
  | t, [], _ => ⟨by show (0 : Int) ≤ 0; omega, by show (0 : Int) ≤ 6; omega⟩
  | t, p :: r, h => by
    unfold look
    split
    · exact h p (by simp)
    · exact look_range t r fun q hq => h q (by simp [hq])
theorem find_range (s : List UInt8) : 0 ≤ find s ∧ find s ≤ 6 := by
  unfold find
  split
  · omega
  · exact look_range _ _ (by decide)
theorem find_nil : find [] = 0 := by decide +kernel

/-- behind the quote, if there is one: what ends the value, and where it is looked for. -/
def front (u : List UInt8) : List UInt8 × List UInt8 := match u with
  | [] => (ends, [])
  | b :: r => if b = 34 ∨ b = 39 then ([b], r) else (ends, b :: r)
theorem value_front (u : List UInt8) : value u = value2 (front u).1 (front u).2 := by
  cases u with
  | nil => rfl
  | cons b r =>
    rw [value_cons]
    show _ = value2 (if _ then _ else _ : List UInt8 × List UInt8).1 (if _ then _ else _ : List UInt8 × List UInt8).2
    split <;> rfl
theorem front_len (u : List UInt8) : (front u).2.length ≤ u.length := by
  cases u with
  | nil => exact Nat.le_refl _
  | cons b r =>
    show (if _ then _ else _ : List UInt8 × List UInt8).2.length ≤ _
    split <;> simp

theorem v2_hit {e v : List UInt8} {n : Nat} {x : UInt8} (h : Lib.NoAny v e n) (hx : v[n]? = some x) (hc : e.contains x = true) (hn : n ≤ 40) : value2 e v = (v.take n, true) := by
  unfold value2
  rw [Lib.indexAny_hit h hx hc, if_neg (by omega)]
  simp
theorem v2_open {e v : List UInt8} (h : Lib.NoAny v e v.length) (hn : v.length ≤ 40) : value2 e v = ([], false) := by
  unfold value2
  rw [Lib.indexAny_none h, if_pos (.inl (by omega)), decide_eq_false (by omega), decide_eq_false (by omega)]
  rfl
theorem v2_far {e v : List UInt8} {n : Nat} (h : Lib.NoAny v e n) (hn : 40 < n) (hl : n ≤ v.length) : value2 e v = ([], true) := by
  unfold value2
  have h1 : Lib.indexAny v e < 0 ∨ (n : Int) ≤ Lib.indexAny v e := by
    by_cases h0 : Lib.indexAny v e < 0
    · exact .inl h0
    · refine .inr ?_
      have hge := Lib.indexAny_ge e v
      have key : ∀ (l : List UInt8) (m : Nat), Lib.NoAny l e m → 0 ≤ Lib.indexAny l e → (m : Int) ≤ Lib.indexAny l e := by
        intro l
        induction l with
        | nil => intro m _ h; exact absurd h (by show ¬ (0 : Int) ≤ -1; omega)
        | cons b l ih =>
          intro m hm h
          cases m with
          | zero => omega
          | succ m =>
            have hb : e.contains b = false := hm 0 b (by omega) rfl
            have hm' : Lib.NoAny l e m := fun j y hj hy => hm (j + 1) y (by omega) (by simpa using hy)
            unfold Lib.indexAny at h ⊢
            rw [if_neg (by rw [hb]; simp)] at h ⊢
            have hge := Lib.indexAny_ge e l
            by_cases h1 : (Lib.indexAny l e == -1) = true
            · rw [if_pos h1] at h; omega
            · rw [if_neg h1]
              have h2 : Lib.indexAny l e ≠ -1 := fun x => h1 (beq_iff_eq.2 x)
              have := ih m hm' (by omega)
              omega
      exact key v n h (by omega)
  rw [if_pos (by omega)]
  rcases h1 with h1 | h1
  · rw [decide_eq_true (show 40 < v.length by omega), Bool.or_true]
  · rw [decide_eq_true (show 40 < Lib.indexAny v e by omega), Bool.true_or]
end Go.Proofs.YtefohnbmifblkaaDoor.Pl
