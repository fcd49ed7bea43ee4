/-
  A list of acts that comes in as an argument, opened.
-/
import Derived.Test.YtefohnbmifblkabDoorTpE
import Derived.Deep.SlicePairs
import Derived.WideShapes
import Derived.ProofKit
namespace Go.Proofs.YtefohnbmifblkabDoor
open Go.ChangeShapes Go.WideShapes Go.ChangeAt Go.RowKit

def kOf (v : Value) : Int := match v with
  | .int _ n => n
  | _ => 0
def sOf (v : Value) : ByteArray := match v with
  | .string s => s
  | _ => ⟨#[]⟩
theorem cellsOfAct : Tryd.prog.cellsOf 24 = 2 := by kernel_rfl
theorem cellsOfInt : Tryd.prog.cellsOf 3 = 1 := by kernel_rfl
theorem cellsOfStr : Tryd.prog.cellsOf 9 = 1 := by kernel_rfl

set_option maxRecDepth 100000 in
theorem open_acts {H : Type} {enc : TypeId × Value → H} {W : World} {r : Reach} {base : Nat} {v : Value} {d : DataW H} {ps : List MemPlace} {sp : Nat → Bool} {b0 : Nat}
    (hval : Value.okWide Tryd.prog W r base 22 v) (hd : DataW.Trod enc Tryd.prog W b0 sp true 22 v d ps) : ∃ l : List Ac, Acts W v l := by
  obtain ⟨a, len, cap, rfl⟩ := okWide_slice Tryd.underlying22 hval
  obtain ⟨fuel, h⟩ := hd
  rcases Go.Deep.open_slice_pairs Tryd.underlying22 Tryd.underlying24 cellsOfAct rfl rfl cellsOfInt cellsOfStr h with ⟨h1, _⟩ | ⟨a', len', cap', m, n, V0, V1, D0, D1, P0, P1, h1, _, hl, hm, hmm, _, hx⟩
  · injection h1 with h1 _
    rw [h1]
    exact ⟨[], none, 0, rfl, Nat.zero_le _, fun _ h => (List.not_mem_nil h).elim, .inl rfl⟩
  · injection h1 with h1 _
    rw [h1]
    have hlm : len' ≤ m := by rw [hmm]; split <;> omega
    have each : ∀ i, i < len' → W.cell? (a'.add (i * 2)) = some (.int .i64 (kOf (V0 i))) ∧ W.cell? (a'.add (i * 2 + 1)) = some (.string (sOf (V1 i))) ∧ (sOf (V1 i)).size ≤ maxLen := by
      intro i hi
      obtain ⟨c0, c1, t0, t1⟩ := hx i (by omega)
      obtain ⟨k, e0, _, _⟩ := DataW.trod_int Tryd.underlying3 t0
      obtain ⟨s, e1, _, hs⟩ := DataW.trod_string Tryd.underlying9 t1
      injection e0 with e0 _
      injection e1 with e1 _
      rw [e0] at c0
      rw [e1] at c1
      rw [e0, e1]
      exact ⟨c0, c1, hs⟩
    refine ⟨(List.range len').map fun i => (kOf (V0 i), sOf (V1 i)), some a', cap', by simp, by simp; omega, ?_, ?_⟩
    · intro x hx
      obtain ⟨i, hi, rfl⟩ := List.mem_map.1 hx
      exact (each i (List.mem_range.1 hi)).2.2
    · rcases Nat.eq_zero_or_pos len' with rfl | hpos
      · exact .inl rfl
      · right
        obtain ⟨g, off, spot⟩ := a'
        have hspot : spot = none := by simpa [Addr.add] using World.cell?_spot (each 0 hpos).1
        subst hspot
        refine ⟨g, off, rfl, fun j x hj => ?_⟩
        rw [List.getElem?_map, Option.map_eq_some_iff] at hj
        obtain ⟨i, hi, rfl⟩ := hj
        obtain ⟨hi1, hi2⟩ := List.getElem?_eq_some_iff.1 hi
        rw [List.getElem_range] at hi2
        subst hi2
        have hj2 : j < len' := by simpa using hi1
        obtain ⟨c0, c1, _⟩ := each j hj2
        have ea : ∀ k, (⟨g, off, none⟩ : Addr).add k = ⟨g, off + k, none⟩ := fun k => by unfold Addr.add; split <;> simp_all
        rw [ea] at c0 c1
        exact ⟨c0, by rw [Nat.add_assoc]; exact c1⟩
end Go.Proofs.YtefohnbmifblkabDoor
