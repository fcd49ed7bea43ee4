/-
  Plain: behind the end; what is refused; behind as many acts as may be.
-/
import Derived.Test.YtefohnbmifblkabDoorTpE
namespace Go.Proofs.YtefohnbmifblkabDoor
open Go.RowKit

/-- behind a finish that was heard, or came too late. -/
theorem finish_code (d : DS) (ha : d.acts < 300) : ((doDS d 3 []).2.code = 0 ∨ (doDS d 3 []).2.code = 3) ∧ (doDS d 3 []).1.ended = true ∧ (doDS d 3 []).1.acts = d.acts + 1 ∧ (doDS d 3 []).1.bs = d.bs ∧ ((doDS d 3 []).2.code = 0 → (doDS d 3 []).2.vd = vd (doDS d 3 []).1) := by
  by_cases he : d.ended = true
  · have e : doDS d 3 [] = (tick d, rp0 3) := by
      unfold doDS
      rw [if_neg (by omega), if_neg (by omega), if_neg (by omega), if_pos he]
    rw [e]
    exact ⟨.inr rfl, he, rfl, rfl, fun h => absurd h (by show ¬ (3 : Int) = 0; omega)⟩
  · have he2 : d.ended = false := by simpa using he
    rw [doDS_finish d [] ha he2]
    exact ⟨.inl rfl, rfl, rfl, rfl, fun _ => rfl⟩
theorem feed_ended (d : DS) (l : List UInt8) (ha : d.acts < 300) (he : d.ended = true) : doDS d 1 l = (tick d, rp0 3) := by
  unfold doDS
  rw [if_neg (by omega), if_neg (by omega), if_neg (by omega), if_pos he]
theorem finish_ended (d : DS) (ha : d.acts < 300) (he : d.ended = true) : doDS d 3 [] = (tick d, rp0 3) := by
  unfold doDS
  rw [if_neg (by omega), if_neg (by omega), if_neg (by omega), if_pos he]
theorem kind_bad (d : DS) (ha : d.acts < 300) : doDS d 0 [] = (tick d, rp0 2) := by
  unfold doDS
  rw [if_neg (by omega), if_pos (by omega)]
theorem full_bad (d : DS) (k : Int) (l : List UInt8) (ha : 300 ≤ d.acts) : doDS d k l = (d, rp0 5) := by
  unfold doDS
  rw [if_pos ha]
theorem vd_ended (d : DS) (he : d.ended = true) : (vd d).2.2 = true := by
  unfold vd
  rw [he]
  repeat' split
  all_goals simp
theorem vd_tick (d : DS) : vd (tick d) = vd d := rfl
/-- what is refused changes nothing but the number of acts. -/
theorem refused (d : DS) (k : Int) (l : List UInt8) (hc : (doDS d k l).2.code ≠ 0) : (doDS d k l).2.vd = (0, 0, false) ∧ (doDS d k l).2.out = [] ∧ EqA (doDS d k l).1 d := by
  revert hc
  unfold doDS
  repeat' split
  all_goals first
    | (intro _; exact ⟨rfl, rfl, EqA.refl _⟩)
    | (intro _; exact ⟨rfl, rfl, eqA_tick _⟩)
    | (intro h; exact absurd rfl h)
/-- a run of acts that are of no kind. -/
def idle (d : DS) : Nat → DS
  | 0 => d
  | n + 1 => tick (idle d n)
theorem idle_acts (d : DS) : ∀ n, (idle d n).acts = d.acts + n
  | 0 => by simp [idle]
  | n + 1 => by
    show (idle d n).acts + 1 = _
    rw [idle_acts d n]
    omega
theorem idle_bs (d : DS) : ∀ n, (idle d n).bs = d.bs
  | 0 => rfl
  | n + 1 => idle_bs d n
theorem ok_acts (d : DS) (l : List Ac) (h : d.acts = 0) : (runA d (l.take 100)).acts ≤ 100 ∧ (runA d (l.take 100)).acts = ((min l.length 100 : Nat) : Int) := by
  have hl : (l.take 100).length = min l.length 100 := by rw [List.length_take, Nat.min_comm]
  have h1 := runA_acts d (l.take 100) (by omega)
  omega
end Go.Proofs.YtefohnbmifblkabDoor
