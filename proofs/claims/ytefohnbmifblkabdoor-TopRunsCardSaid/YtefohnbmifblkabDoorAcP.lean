/-
  A list of acts that comes in as an argument: it is no longer than its room.
-/
import Derived.Test.YtefohnbmifblkabDoorAcO
namespace Go.Proofs.YtefohnbmifblkabDoor
open Go.ChangeShapes Go.WideShapes Go.ChangeAt Go.RowKit

set_option maxRecDepth 100000 in
theorem acts_cap {H : Type} {enc : TypeId × Value → H} {W : World} {r : Reach} {base : Nat} {v : Value} {d : DataW H} {ps : List MemPlace} {sp : Nat → Bool} {b0 : Nat}
    (hval : Value.okWide Tryd.prog W r base 22 v) (hd : DataW.Trod enc Tryd.prog W b0 sp true 22 v d ps) : ∀ p n c, v = .slice p n c → n ≤ c := by
  obtain ⟨a, len, cap, rfl⟩ := okWide_slice Tryd.underlying22 hval
  obtain ⟨fuel, h⟩ := hd
  intro p n c he
  injection he with e1 e2 e3
  subst e1 e2 e3
  rcases Go.Deep.open_slice_pairs Tryd.underlying22 Tryd.underlying24 cellsOfAct rfl rfl cellsOfInt cellsOfStr h with ⟨h1, _⟩ | ⟨a', len', cap', m, n, V0, V1, D0, D1, P0, P1, h1, _, hl, _⟩
  · injection h1 with h1 _
    injection h1 with _ e2 e3
    omega
  · injection h1 with h1 _
    injection h1 with _ e2 e3
    omega
end Go.Proofs.YtefohnbmifblkabDoor
