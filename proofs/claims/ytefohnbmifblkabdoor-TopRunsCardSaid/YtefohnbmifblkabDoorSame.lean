/-
  The walks of SameNumbers and SameReply (of the references and of the statements of the whole): two lists that hold the same numbers are the same, two replies that hold the same are the same; nothing is changed.
-/
import Derived.Test.YtefohnbmifblkabDoorMem
import Derived.Test.YtefohnbmifblkabDoorRows
namespace Go.Proofs.YtefohnbmifblkabDoor
open Go.RowKit

/-- The slice v holds just these numbers; it begins at the head of a block, if it holds any. -/
def Ints (w : World) (v : Value) (xs : List Int) : Prop :=
  ∃ (a : Option Addr) (c : Nat), v = .slice a xs.length c ∧ (xs = [] ∨ ∃ g : Nat, a = some ⟨g, 0, none⟩ ∧ ∀ (j : Nat) (x : Int), xs[j]? = some x → w.cell? ⟨g, j, none⟩ = some (.int .i64 x))
theorem Ints.nil (w : World) : Ints w (.slice none 0 0) [] := ⟨none, 0, rfl, .inl rfl⟩
theorem Ints.below {w w' : World} {v : Value} {xs : List Int} (h : Ints w v xs) (hb : Below w.heap.size w w') : Ints w' v xs := by
  obtain ⟨a, c, rfl, h⟩ := h
  refine ⟨a, c, rfl, ?_⟩
  rcases h with h | ⟨g, rfl, h⟩
  · exact .inl h
  · exact .inr ⟨g, rfl, fun j x hj => (hb.cell (p := ⟨g, j, none⟩) (lt_of_cell (h j x hj))).trans (h j x hj)⟩
theorem two_new (w : World) (o o' : Obj) : Below w.heap.size w ((w.alloc o).alloc o') := ((Below.refl _ _).alloc (Nat.le_refl _) _).alloc (by simp) _

set_option maxHeartbeats 1000000 in
theorem topSame_any (w : World) (v u : Value) (xs : List Int) (hl : xs.length ≤ maxLen) (hv : Ints w v xs) (hu : Ints w u xs) :
    Calls Tryd.prog 20 #[v, u] w fun e w' => e = .returned (.bool true) ∧ Drew w w' := by
  unfold maxLen at hl
  obtain ⟨a, c, rfl, hv⟩ := hv
  obtain ⟨a', c', rfl, hu⟩ := hu
  have hnn : ((xs.length : Int) != (xs.length : Int)) = false := by simp
  go_enter Tryd.func20, Tryd.ntmps20
  go_wp2
  go_loopw [13] (fun i wr => Drew w wr ∧ ∃ k : Nat, k ≤ xs.length ∧ i = .int .i64 k) (fun i _ => xs.length - (intOf i).toNat)
  case atStart => exact ⟨Drew.refl _, 0, by omega, rfl⟩
  case round =>
    obtain ⟨hd, k, hk, rfl⟩ := hrel
    by_cases hlt : k < xs.length
    · rcases hv with rfl | ⟨g, rfl, hv⟩
      · simp at hlt
      · rcases hu with rfl | ⟨g', rfl, hu⟩
        · simp at hlt
        · obtain ⟨x, hx⟩ : ∃ x, xs[k]? = some x := ⟨_, List.getElem?_eq_getElem hlt⟩
          have c1 := (hd.cell _).trans (hv k x hx)
          have c2 := (hd.cell _).trans (hu k x hx)
          clear hv hu hx
          have hxx : (x != x) = false := by simp
          have hki : (k : Int) < (xs.length : Int) := by omega
          go_wp2
          go_quiet (fail)
          go_wp2
          go_roundw
          case rel => exact ⟨hd.drewN _, k + 1, by omega, by go_num⟩
          case measure => simp [intOf]; omega
    · go_wp2
      go_ret
      exact ⟨rfl, hd⟩

set_option maxHeartbeats 1000000 in
theorem topSameReply_any (w : World) (code e b : Int) (f : Bool) (v u : Value) (xs : List Int) (hl : xs.length ≤ maxLen) (hv : Ints w v xs) (hu : Ints w u xs) :
    Calls Tryd.prog 12 #[.agg #[.int .i64 code, .int .i64 e, .int .i64 b, .bool f, v], .agg #[.int .i64 code, .int .i64 e, .int .i64 b, .bool f, u]] w fun e w' => e = .returned (.bool true) ∧ Below w.heap.size w w' := by
  have HV := Lib.hid hv
  have HU := Lib.hid hu
  have HL := Lib.hid hl
  obtain ⟨a, c, hv', _⟩ := hv
  obtain ⟨a', c', hu', _⟩ := hu
  subst hv' hu'
  clear hl
  go_enter Tryd.func12, Tryd.ntmps12
  go_wp2_with fail
  refine (topSame_any _ _ _ xs HL.out (HV.out.below (two_new _ _ _)) (HU.out.below (two_new _ _ _))).mono ?_
  rintro e w1 ⟨rfl, hd1⟩
  go_wp2
  go_ret
  exact ⟨rfl, (two_new _ _ _).trans hd1.below⟩


end Go.Proofs.YtefohnbmifblkabDoor
