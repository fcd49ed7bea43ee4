/-
  The walk of decode.End at every good state.
-/
import Derived.Test.YtefohnbmifblkaaDoorDcU
import Derived.Test.YtefohnbmifblkaaDoorPlD
namespace Go.Proofs.YtefohnbmifblkaaDoor
open Go.RowKit
open Pl (St st0 byte dOk)

/-- a later world in which the call's own row stands as it was laid. -/
structure One (w : World) (x : Array Value) (t : TypeId) (w1 : World) : Prop where
  below : Below w.heap.size w w1
  hx : w1.heap[w.heap.size]? = some (.cells x t (0, 0))
  size : w.heap.size + 1 ≤ w1.heap.size
theorem One.of {w w1 : World} {x : Array Value} {t : TypeId} (h : Below (w.alloc (.cells x t)).heap.size (w.alloc (.cells x t)) w1) : One w x t w1 := by
  have hs := h.size
  simp only [World.size_alloc] at hs
  refine ⟨(Below.alloc (Below.refl _ _) (Nat.le_refl _) _).trans (h.mono (by simp)), ?_, by omega⟩
  rw [h.block _ (by simp only [World.size_alloc]; omega)]
  exact heap_alloc_new w _
theorem One.next {w w1 w2 : World} {x : Array Value} {t : TypeId} (h : One w x t w1) (k : Below (w.heap.size + 1) w1 w2) : One w x t w2 :=
  ⟨h.below.trans (k.mono (by omega)), (k.block _ (by omega)).trans h.hx, Nat.le_trans h.size k.size⟩
theorem One.cells {w w1 : World} {x : Array Value} {t : TypeId} (h : One w x t w1) :
    (∀ k, w1.cell? ⟨w.heap.size, k, none⟩ = x[k]?) ∧ (∀ k, w1.frozen? ⟨w.heap.size, k, none⟩ = false) :=
  ⟨fun k => cell_of_row w1 _ k _ _ _ h.hx, fun _ => by unfold World.frozen?; simp [h.hx]⟩

/-- it is an append. -/
theorem gate_append {P : Program} {ops : Array Oper} {Q : Exit → Act → World → Prop} {dst : Option Nat} {args : Array Operand} {ats : Array TypeId} {ty : TypeId} {pos : String} {af : Array Edge} {gd : Option (Nat × Bool)} {rest : List Oper} {a : Act} {w : World}
    (h : wpList P ops Q ({ dst := dst, op := .call { callee := .builtin .append, args := args, argTypes := ats }, type := ty, pos := pos, after := af, guard := gd } :: rest) a w) :
    wpList P ops Q ({ dst := dst, op := .call { callee := .builtin .append, args := args, argTypes := ats }, type := ty, pos := pos, after := af, guard := gd } :: rest) a w := h

/-- what End, Step, .. answer: numbers in a slice of their own. -/
def AnsE (w : World) (l : List Int) (e : Ending) (w' : World) : Prop :=
  (∃ v, e = .returned (.tuple #[v, .int .i64 0]) ∧ w'.ownsRow w.heap.size 3 1 v l.length (ints l)) ∧ Below w.heap.size w w'
theorem ansE_nil {w w' : World} {l : List Int} (hl : l = []) (hb : Below w.heap.size w w') : AnsE w l (.returned (.tuple #[.slice none 0 0, .int .i64 0])) w' := by
  subst hl
  exact ⟨⟨_, rfl, rfl, .inl ⟨rfl, rfl⟩⟩, hb⟩
theorem ansE_one {w w' : World} {l : List Int} {x : Int} {v : Value} (h : w'.ownsRow (w.heap.size + 1) 3 1 v (0 + 1) ([] ++ [.int .i64 x])) (hl : l = [x]) (hb : Below w.heap.size w w') : AnsE w l (.returned (.tuple #[v, .int .i64 0])) w' := by
  subst hl
  exact ⟨⟨_, rfl, h.mono (by omega)⟩, hb⟩
theorem ansE_two {w w' : World} {l : List Int} {x y : Int} {v : Value} (h : w'.ownsRow (w.heap.size + 1) 3 1 v (0 + 1 + 1) ([] ++ [.int .i64 x] ++ [.int .i64 y])) (hl : l = [x, y]) (hb : Below w.heap.size w w') : AnsE w l (.returned (.tuple #[v, .int .i64 0])) w' := by
  subst hl
  exact ⟨⟨_, rfl, h.mono (by omega)⟩, hb⟩

set_option maxRecDepth 100000 in
set_option maxHeartbeats 4000000 in
theorem end_zero (e : Int) (m : Int) (w : World) (he : 1 ≤ e ∧ e ≤ 6) (hok : dOk e ⟨0, 0, 0, 0, [], 0, m⟩) :
    Calls Tryd.prog 71 #[.int .i64 e, stV ⟨0, 0, 0, 0, [], 0, m⟩] w fun e w' => AnsE w (Pl.dEnd ⟨0, 0, 0, 0, [], 0, m⟩) e w' := by
  have HD := Lib.hid hok
  obtain ⟨he0, he1⟩ := he
  clear hok
  unfold stV
  go_enter Tryd.func71, Tryd.ntmps71
  go_wp2_with fail
  refine (good_any e ⟨0, 0, 0, 0, [], 0, m⟩ _ HD.out).mono ?_
  rintro e1 w1 ⟨rfl, hb1⟩
  have L1 := One.of hb1
  obtain ⟨fx1, fz1⟩ := L1.cells
  have hs1 := L1.size
  clear hb1
  go_wp2_with fail
  refine bodyPost_ret (by simp [results, Tryd.results71, go_sem]; rfl) rfl ?_
  refine ansE_nil ?_ L1.below
  (first | (simp [Pl.dEnd]; done) | (simp [Pl.dEnd, Pl.byte]; done) | (rfl))

set_option maxRecDepth 100000 in
set_option maxHeartbeats 4000000 in
theorem end_need1 (e : Int) (cd f t : Int) (w : World) (he : 1 ≤ e ∧ e ≤ 6) (hok : dOk e ⟨1, cd, f, t, [], 0, 0⟩) :
    Calls Tryd.prog 71 #[.int .i64 e, stV ⟨1, cd, f, t, [], 0, 0⟩] w fun e w' => AnsE w (Pl.dEnd ⟨1, cd, f, t, [], 0, 0⟩) e w' := by
  have HD := Lib.hid hok
  obtain ⟨he0, he1⟩ := he
  clear hok
  unfold stV
  go_enter Tryd.func71, Tryd.ntmps71
  go_wp2_with fail
  refine (good_any e ⟨1, cd, f, t, [], 0, 0⟩ _ HD.out).mono ?_
  rintro e1 w1 ⟨rfl, hb1⟩
  have L1 := One.of hb1
  obtain ⟨fx1, fz1⟩ := L1.cells
  have hs1 := L1.size
  clear hb1
  go_wp2_with (first
    | (at_builtin
       with_reducible refine gate_append ?_
       refine wpList_app (by rfl) _ _ (by rfl) (w.heap.size + 1) 0 _ _ 0 1 [] _ (by rfl) (by rfl) (World.ownsRow_nil _ _ _ _) (own_lone (Nat.zero_le _) (heap_at (by rfl))) (lone_one _) (by omega) (by simp; try omega) ?_
       intro v2 w2 HA2
       have L2 := L1.next ((Below.alloc (Below.refl _ _) (by omega) _).trans (HA2.below (World.ownsRow_nil _ _ _ _) (by simp; omega)))
       have HO2 := Lib.hid HA2.own
       obtain ⟨fx2, fz2⟩ := L2.cells
       have hs2 := L2.size
       have HL2 := Lib.hid L2.below
       have HN2 := Lib.hid L2
       clear HA2 L2 L1 fx1 fz1))
  refine bodyPost_ret (by simp [results, Tryd.results71, go_sem]; rfl) rfl ?_
  have hx := HO2.out
  have hy := HL2.out
  refine ansE_one hx ?_ hy
  (first | (simp [Pl.dEnd]; done) | (simp [Pl.dEnd, Pl.byte]; done) | (rfl))

set_option maxRecDepth 100000 in
set_option maxHeartbeats 4000000 in
theorem end_need2 (e : Int) (cd f t : Int) (w : World) (he : 1 ≤ e ∧ e ≤ 6) (hok : dOk e ⟨2, cd, f, t, [], 0, 0⟩) :
    Calls Tryd.prog 71 #[.int .i64 e, stV ⟨2, cd, f, t, [], 0, 0⟩] w fun e w' => AnsE w (Pl.dEnd ⟨2, cd, f, t, [], 0, 0⟩) e w' := by
  have HD := Lib.hid hok
  obtain ⟨he0, he1⟩ := he
  clear hok
  unfold stV
  go_enter Tryd.func71, Tryd.ntmps71
  go_wp2_with fail
  refine (good_any e ⟨2, cd, f, t, [], 0, 0⟩ _ HD.out).mono ?_
  rintro e1 w1 ⟨rfl, hb1⟩
  have L1 := One.of hb1
  obtain ⟨fx1, fz1⟩ := L1.cells
  have hs1 := L1.size
  clear hb1
  go_wp2_with (first
    | (at_builtin
       with_reducible refine gate_append ?_
       refine wpList_app (by rfl) _ _ (by rfl) (w.heap.size + 1) 0 _ _ 0 1 [] _ (by rfl) (by rfl) (World.ownsRow_nil _ _ _ _) (own_lone (Nat.zero_le _) (heap_at (by rfl))) (lone_one _) (by omega) (by simp; try omega) ?_
       intro v2 w2 HA2
       have L2 := L1.next ((Below.alloc (Below.refl _ _) (by omega) _).trans (HA2.below (World.ownsRow_nil _ _ _ _) (by simp; omega)))
       have HO2 := Lib.hid HA2.own
       obtain ⟨fx2, fz2⟩ := L2.cells
       have hs2 := L2.size
       have HL2 := Lib.hid L2.below
       have HN2 := Lib.hid L2
       clear HA2 L2 L1 fx1 fz1))
  refine bodyPost_ret (by simp [results, Tryd.results71, go_sem]; rfl) rfl ?_
  have hx := HO2.out
  have hy := HL2.out
  refine ansE_one hx ?_ hy
  (first | (simp [Pl.dEnd]; done) | (simp [Pl.dEnd, Pl.byte]; done) | (rfl))

set_option maxRecDepth 100000 in
set_option maxHeartbeats 4000000 in
theorem end_need3 (e : Int) (cd f t : Int) (w : World) (he : 1 ≤ e ∧ e ≤ 6) (hok : dOk e ⟨3, cd, f, t, [], 0, 0⟩) :
    Calls Tryd.prog 71 #[.int .i64 e, stV ⟨3, cd, f, t, [], 0, 0⟩] w fun e w' => AnsE w (Pl.dEnd ⟨3, cd, f, t, [], 0, 0⟩) e w' := by
  have HD := Lib.hid hok
  obtain ⟨he0, he1⟩ := he
  clear hok
  unfold stV
  go_enter Tryd.func71, Tryd.ntmps71
  go_wp2_with fail
  refine (good_any e ⟨3, cd, f, t, [], 0, 0⟩ _ HD.out).mono ?_
  rintro e1 w1 ⟨rfl, hb1⟩
  have L1 := One.of hb1
  obtain ⟨fx1, fz1⟩ := L1.cells
  have hs1 := L1.size
  clear hb1
  go_wp2_with (first
    | (at_builtin
       with_reducible refine gate_append ?_
       refine wpList_app (by rfl) _ _ (by rfl) (w.heap.size + 1) 0 _ _ 0 1 [] _ (by rfl) (by rfl) (World.ownsRow_nil _ _ _ _) (own_lone (Nat.zero_le _) (heap_at (by rfl))) (lone_one _) (by omega) (by simp; try omega) ?_
       intro v2 w2 HA2
       have L2 := L1.next ((Below.alloc (Below.refl _ _) (by omega) _).trans (HA2.below (World.ownsRow_nil _ _ _ _) (by simp; omega)))
       have HO2 := Lib.hid HA2.own
       obtain ⟨fx2, fz2⟩ := L2.cells
       have hs2 := L2.size
       have HL2 := Lib.hid L2.below
       have HN2 := Lib.hid L2
       clear HA2 L2 L1 fx1 fz1))
  refine bodyPost_ret (by simp [results, Tryd.results71, go_sem]; rfl) rfl ?_
  have hx := HO2.out
  have hy := HL2.out
  refine ansE_one hx ?_ hy
  (first | (simp [Pl.dEnd]; done) | (simp [Pl.dEnd, Pl.byte]; done) | (rfl))

set_option maxRecDepth 100000 in
set_option maxHeartbeats 4000000 in
theorem end_half (e : Int) (h : Int) (hh0 : 55296 ≤ h) (w : World) (he : 1 ≤ e ∧ e ≤ 6) (hok : dOk e ⟨0, 0, 0, 0, [], h, 0⟩) :
    Calls Tryd.prog 71 #[.int .i64 e, stV ⟨0, 0, 0, 0, [], h, 0⟩] w fun e w' => AnsE w (Pl.dEnd ⟨0, 0, 0, 0, [], h, 0⟩) e w' := by
  have HD := Lib.hid hok
  obtain ⟨he0, he1⟩ := he
  clear hok
  unfold stV
  have hhn : ¬ h = 0 := by omega
  go_enter Tryd.func71, Tryd.ntmps71
  go_wp2_with fail
  refine (good_any e ⟨0, 0, 0, 0, [], h, 0⟩ _ HD.out).mono ?_
  rintro e1 w1 ⟨rfl, hb1⟩
  have L1 := One.of hb1
  obtain ⟨fx1, fz1⟩ := L1.cells
  have hs1 := L1.size
  clear hb1
  go_wp2_with (first
    | (at_builtin
       with_reducible refine gate_append ?_
       refine wpList_app (by rfl) _ _ (by rfl) (w.heap.size + 1) 0 _ _ 0 1 [] _ (by rfl) (by rfl) (World.ownsRow_nil _ _ _ _) (own_lone (Nat.zero_le _) (heap_at (by rfl))) (lone_one _) (by omega) (by simp; try omega) ?_
       intro v2 w2 HA2
       have L2 := L1.next ((Below.alloc (Below.refl _ _) (by omega) _).trans (HA2.below (World.ownsRow_nil _ _ _ _) (by simp; omega)))
       have HO2 := Lib.hid HA2.own
       obtain ⟨fx2, fz2⟩ := L2.cells
       have hs2 := L2.size
       have HL2 := Lib.hid L2.below
       have HN2 := Lib.hid L2
       clear HA2 L2 L1 fx1 fz1))
  refine bodyPost_ret (by simp [results, Tryd.results71, go_sem]; rfl) rfl ?_
  have hx := HO2.out
  have hy := HL2.out
  refine ansE_one hx ?_ hy
  (first | (simp [Pl.dEnd]; done) | (simp [Pl.dEnd]; done) | (unfold Pl.dEnd; simp [hhn]))

set_option maxRecDepth 100000 in
set_option maxHeartbeats 4000000 in
theorem end_lone (e : Int) (l : UInt8) (m : Int) (w : World) (he : 1 ≤ e ∧ e ≤ 6) (hok : dOk e ⟨0, 0, 0, 0, [l], 0, m⟩) :
    Calls Tryd.prog 71 #[.int .i64 e, stV ⟨0, 0, 0, 0, [l], 0, m⟩] w fun e w' => AnsE w (Pl.dEnd ⟨0, 0, 0, 0, [l], 0, m⟩) e w' := by
  have HD := Lib.hid hok
  obtain ⟨he0, he1⟩ := he
  clear hok
  unfold stV
  go_enter Tryd.func71, Tryd.ntmps71
  go_wp2_with fail
  refine (good_any e ⟨0, 0, 0, 0, [l], 0, m⟩ _ HD.out).mono ?_
  rintro e1 w1 ⟨rfl, hb1⟩
  have L1 := One.of hb1
  obtain ⟨fx1, fz1⟩ := L1.cells
  have hs1 := L1.size
  clear hb1
  go_wp2_with (first
    | (at_builtin
       with_reducible refine gate_append ?_
       refine wpList_app (by rfl) _ _ (by rfl) (w.heap.size + 1) 0 _ _ 0 1 [] _ (by rfl) (by rfl) (World.ownsRow_nil _ _ _ _) (own_lone (Nat.zero_le _) (heap_at (by rfl))) (lone_one _) (by omega) (by simp; try omega) ?_
       intro v2 w2 HA2
       have L2 := L1.next ((Below.alloc (Below.refl _ _) (by omega) _).trans (HA2.below (World.ownsRow_nil _ _ _ _) (by simp; omega)))
       have HO2 := Lib.hid HA2.own
       obtain ⟨fx2, fz2⟩ := L2.cells
       have hs2 := L2.size
       have HL2 := Lib.hid L2.below
       have HN2 := Lib.hid L2
       clear HA2 L2 L1 fx1 fz1))
  refine bodyPost_ret (by simp [results, Tryd.results71, go_sem]; rfl) rfl ?_
  have hx := HO2.out
  have hy := HL2.out
  refine ansE_one hx ?_ hy
  (first | (simp [Pl.dEnd]; done) | (simp [Pl.dEnd, Pl.byte]; done) | (rfl))

set_option maxRecDepth 100000 in
set_option maxHeartbeats 4000000 in
theorem end_lone_half (e : Int) (l : UInt8) (h : Int) (hh0 : 55296 ≤ h) (w : World) (he : 1 ≤ e ∧ e ≤ 6) (hok : dOk e ⟨0, 0, 0, 0, [l], h, 0⟩) :
    Calls Tryd.prog 71 #[.int .i64 e, stV ⟨0, 0, 0, 0, [l], h, 0⟩] w fun e w' => AnsE w (Pl.dEnd ⟨0, 0, 0, 0, [l], h, 0⟩) e w' := by
  have HD := Lib.hid hok
  obtain ⟨he0, he1⟩ := he
  clear hok
  unfold stV
  have hhn : ¬ h = 0 := by omega
  go_enter Tryd.func71, Tryd.ntmps71
  go_wp2_with fail
  refine (good_any e ⟨0, 0, 0, 0, [l], h, 0⟩ _ HD.out).mono ?_
  rintro e1 w1 ⟨rfl, hb1⟩
  have L1 := One.of hb1
  obtain ⟨fx1, fz1⟩ := L1.cells
  have hs1 := L1.size
  clear hb1
  go_wp2_with (first
    | (at_builtin
       with_reducible refine gate_append ?_
       refine wpList_app (by rfl) _ _ (by rfl) (w.heap.size + 1) 0 _ _ 0 1 [] _ (by rfl) (by rfl) (World.ownsRow_nil _ _ _ _) (own_lone (Nat.zero_le _) (heap_at (by rfl))) (lone_one _) (by omega) (by simp; try omega) ?_
       intro v2 w2 HA2
       have L2 := L1.next ((Below.alloc (Below.refl _ _) (by omega) _).trans (HA2.below (World.ownsRow_nil _ _ _ _) (by simp; omega)))
       have HO2 := Lib.hid HA2.own
       obtain ⟨fx2, fz2⟩ := L2.cells
       have hs2 := L2.size
       have HL2 := Lib.hid L2.below
       have HN2 := Lib.hid L2
       clear HA2 L2 L1 fx1 fz1))
  refine bodyPost_ret (by simp [results, Tryd.results71, go_sem]; rfl) rfl ?_
  have hx := HO2.out
  have hy := HL2.out
  refine ansE_one hx ?_ hy
  (first | (simp [Pl.dEnd]; done) | (simp [Pl.dEnd, Pl.byte]; done) | (unfold Pl.dEnd; simp))

set_option maxRecDepth 100000 in
set_option maxHeartbeats 4000000 in
theorem end_two0 (e : Int) (w : World) (he : 1 ≤ e ∧ e ≤ 6) (hok : dOk e ⟨0, 0, 0, 0, [27, 40], 0, 0⟩) :
    Calls Tryd.prog 71 #[.int .i64 e, stV ⟨0, 0, 0, 0, [27, 40], 0, 0⟩] w fun e w' => AnsE w (Pl.dEnd ⟨0, 0, 0, 0, [27, 40], 0, 0⟩) e w' := by
  have HD := Lib.hid hok
  obtain ⟨he0, he1⟩ := he
  clear hok
  unfold stV
  have hix1 : ∀ h : 1 < (⟨#[27, 40]⟩ : ByteArray).size, ((⟨#[27, 40]⟩ : ByteArray)[1]'h).toNat = 40 := fun _ => rfl
  go_enter Tryd.func71, Tryd.ntmps71
  go_wp2_with fail
  refine (good_any e ⟨0, 0, 0, 0, [27, 40], 0, 0⟩ _ HD.out).mono ?_
  rintro e1 w1 ⟨rfl, hb1⟩
  have L1 := One.of hb1
  obtain ⟨fx1, fz1⟩ := L1.cells
  have hs1 := L1.size
  clear hb1
  go_wp2_with (first
    | (at_builtin
       with_reducible refine gate_append ?_
       refine wpList_app (by rfl) _ _ (by rfl) (w.heap.size + 1) 0 _ _ (0 + 1) 1 _ _ (by rfl) (by rfl) (HO2.out.alloc _) (own_lone (Nat.zero_le _) (heap_at (by rfl))) (lone_one _) (by omega) (by simp; try omega) ?_
       intro v3 w3 HA3
       have L3 := HN2.out.next ((Below.alloc (Below.refl _ _) (by omega) _).trans (HA3.below (HO2.out.alloc _) (by simp; omega)))
       have HO3 := Lib.hid HA3.own
       obtain ⟨fx3, fz3⟩ := L3.cells
       have HL3 := Lib.hid L3.below
       clear HA3 L3 fx2 fz2)
    | (at_builtin
       with_reducible refine gate_append ?_
       refine wpList_app (by rfl) _ _ (by rfl) (w.heap.size + 1) 0 _ _ 0 1 [] _ (by rfl) (by rfl) (World.ownsRow_nil _ _ _ _) (own_lone (Nat.zero_le _) (heap_at (by rfl))) (lone_one _) (by omega) (by simp; try omega) ?_
       intro v2 w2 HA2
       have L2 := L1.next ((Below.alloc (Below.refl _ _) (by omega) _).trans (HA2.below (World.ownsRow_nil _ _ _ _) (by simp; omega)))
       have HO2 := Lib.hid HA2.own
       obtain ⟨fx2, fz2⟩ := L2.cells
       have hs2 := L2.size
       have HL2 := Lib.hid L2.below
       have HN2 := Lib.hid L2
       clear HA2 L2 L1 fx1 fz1))
  refine bodyPost_ret (by simp [results, Tryd.results71, go_sem]; rfl) rfl ?_
  have hx := HO3.out
  have hy := HL3.out
  refine ansE_two hx ?_ hy
  (first | (simp [Pl.dEnd]; done) | (simp [Pl.dEnd, Pl.byte]; done) | (rfl))

set_option maxRecDepth 100000 in
set_option maxHeartbeats 4000000 in
theorem end_two1 (e : Int) (w : World) (he : 1 ≤ e ∧ e ≤ 6) (hok : dOk e ⟨0, 0, 0, 0, [27, 40], 0, 1⟩) :
    Calls Tryd.prog 71 #[.int .i64 e, stV ⟨0, 0, 0, 0, [27, 40], 0, 1⟩] w fun e w' => AnsE w (Pl.dEnd ⟨0, 0, 0, 0, [27, 40], 0, 1⟩) e w' := by
  have HD := Lib.hid hok
  obtain ⟨he0, he1⟩ := he
  clear hok
  unfold stV
  go_enter Tryd.func71, Tryd.ntmps71
  go_wp2_with fail
  refine (good_any e ⟨0, 0, 0, 0, [27, 40], 0, 1⟩ _ HD.out).mono ?_
  rintro e1 w1 ⟨rfl, hb1⟩
  have L1 := One.of hb1
  obtain ⟨fx1, fz1⟩ := L1.cells
  have hs1 := L1.size
  clear hb1
  go_wp2_with (first
    | (at_builtin
       with_reducible refine gate_append ?_
       refine wpList_app (by rfl) _ _ (by rfl) (w.heap.size + 1) 0 _ _ (0 + 1) 1 _ _ (by rfl) (by rfl) (HO2.out.alloc _) (own_lone (Nat.zero_le _) (heap_at (by rfl))) (lone_one _) (by omega) (by simp; try omega) ?_
       intro v3 w3 HA3
       have L3 := HN2.out.next ((Below.alloc (Below.refl _ _) (by omega) _).trans (HA3.below (HO2.out.alloc _) (by simp; omega)))
       have HO3 := Lib.hid HA3.own
       obtain ⟨fx3, fz3⟩ := L3.cells
       have HL3 := Lib.hid L3.below
       clear HA3 L3 fx2 fz2)
    | (at_builtin
       with_reducible refine gate_append ?_
       refine wpList_app (by rfl) _ _ (by rfl) (w.heap.size + 1) 0 _ _ 0 1 [] _ (by rfl) (by rfl) (World.ownsRow_nil _ _ _ _) (own_lone (Nat.zero_le _) (heap_at (by rfl))) (lone_one _) (by omega) (by simp; try omega) ?_
       intro v2 w2 HA2
       have L2 := L1.next ((Below.alloc (Below.refl _ _) (by omega) _).trans (HA2.below (World.ownsRow_nil _ _ _ _) (by simp; omega)))
       have HO2 := Lib.hid HA2.own
       obtain ⟨fx2, fz2⟩ := L2.cells
       have hs2 := L2.size
       have HL2 := Lib.hid L2.below
       have HN2 := Lib.hid L2
       clear HA2 L2 L1 fx1 fz1))
  refine bodyPost_ret (by simp [results, Tryd.results71, go_sem]; rfl) rfl ?_
  have hx := HO3.out
  have hy := HL3.out
  refine ansE_two hx ?_ hy
  (first | (simp [Pl.dEnd]; done) | (simp [Pl.dEnd, Pl.byte]; done) | (rfl))

set_option maxRecDepth 100000 in
set_option maxHeartbeats 4000000 in
theorem end_dol0 (e : Int) (w : World) (he : 1 ≤ e ∧ e ≤ 6) (hok : dOk e ⟨0, 0, 0, 0, [27, 36], 0, 0⟩) :
    Calls Tryd.prog 71 #[.int .i64 e, stV ⟨0, 0, 0, 0, [27, 36], 0, 0⟩] w fun e w' => AnsE w (Pl.dEnd ⟨0, 0, 0, 0, [27, 36], 0, 0⟩) e w' := by
  have HD := Lib.hid hok
  obtain ⟨he0, he1⟩ := he
  clear hok
  unfold stV
  have hix1 : ∀ h : 1 < (⟨#[27, 36]⟩ : ByteArray).size, ((⟨#[27, 36]⟩ : ByteArray)[1]'h).toNat = 36 := fun _ => rfl
  go_enter Tryd.func71, Tryd.ntmps71
  go_wp2_with fail
  refine (good_any e ⟨0, 0, 0, 0, [27, 36], 0, 0⟩ _ HD.out).mono ?_
  rintro e1 w1 ⟨rfl, hb1⟩
  have L1 := One.of hb1
  obtain ⟨fx1, fz1⟩ := L1.cells
  have hs1 := L1.size
  clear hb1
  go_wp2_with (first
    | (at_builtin
       with_reducible refine gate_append ?_
       refine wpList_app (by rfl) _ _ (by rfl) (w.heap.size + 1) 0 _ _ (0 + 1) 1 _ _ (by rfl) (by rfl) (HO2.out.alloc _) (own_lone (Nat.zero_le _) (heap_at (by rfl))) (lone_one _) (by omega) (by simp; try omega) ?_
       intro v3 w3 HA3
       have L3 := HN2.out.next ((Below.alloc (Below.refl _ _) (by omega) _).trans (HA3.below (HO2.out.alloc _) (by simp; omega)))
       have HO3 := Lib.hid HA3.own
       obtain ⟨fx3, fz3⟩ := L3.cells
       have HL3 := Lib.hid L3.below
       clear HA3 L3 fx2 fz2)
    | (at_builtin
       with_reducible refine gate_append ?_
       refine wpList_app (by rfl) _ _ (by rfl) (w.heap.size + 1) 0 _ _ 0 1 [] _ (by rfl) (by rfl) (World.ownsRow_nil _ _ _ _) (own_lone (Nat.zero_le _) (heap_at (by rfl))) (lone_one _) (by omega) (by simp; try omega) ?_
       intro v2 w2 HA2
       have L2 := L1.next ((Below.alloc (Below.refl _ _) (by omega) _).trans (HA2.below (World.ownsRow_nil _ _ _ _) (by simp; omega)))
       have HO2 := Lib.hid HA2.own
       obtain ⟨fx2, fz2⟩ := L2.cells
       have hs2 := L2.size
       have HL2 := Lib.hid L2.below
       have HN2 := Lib.hid L2
       clear HA2 L2 L1 fx1 fz1))
  refine bodyPost_ret (by simp [results, Tryd.results71, go_sem]; rfl) rfl ?_
  have hx := HO3.out
  have hy := HL3.out
  refine ansE_two hx ?_ hy
  (first | (simp [Pl.dEnd]; done) | (simp [Pl.dEnd, Pl.byte]; done) | (rfl))

set_option maxRecDepth 100000 in
set_option maxHeartbeats 4000000 in
theorem end_dol1 (e : Int) (w : World) (he : 1 ≤ e ∧ e ≤ 6) (hok : dOk e ⟨0, 0, 0, 0, [27, 36], 0, 1⟩) :
    Calls Tryd.prog 71 #[.int .i64 e, stV ⟨0, 0, 0, 0, [27, 36], 0, 1⟩] w fun e w' => AnsE w (Pl.dEnd ⟨0, 0, 0, 0, [27, 36], 0, 1⟩) e w' := by
  have HD := Lib.hid hok
  obtain ⟨he0, he1⟩ := he
  clear hok
  unfold stV
  go_enter Tryd.func71, Tryd.ntmps71
  go_wp2_with fail
  refine (good_any e ⟨0, 0, 0, 0, [27, 36], 0, 1⟩ _ HD.out).mono ?_
  rintro e1 w1 ⟨rfl, hb1⟩
  have L1 := One.of hb1
  obtain ⟨fx1, fz1⟩ := L1.cells
  have hs1 := L1.size
  clear hb1
  go_wp2_with (first
    | (at_builtin
       with_reducible refine gate_append ?_
       refine wpList_app (by rfl) _ _ (by rfl) (w.heap.size + 1) 0 _ _ (0 + 1) 1 _ _ (by rfl) (by rfl) (HO2.out.alloc _) (own_lone (Nat.zero_le _) (heap_at (by rfl))) (lone_one _) (by omega) (by simp; try omega) ?_
       intro v3 w3 HA3
       have L3 := HN2.out.next ((Below.alloc (Below.refl _ _) (by omega) _).trans (HA3.below (HO2.out.alloc _) (by simp; omega)))
       have HO3 := Lib.hid HA3.own
       obtain ⟨fx3, fz3⟩ := L3.cells
       have HL3 := Lib.hid L3.below
       clear HA3 L3 fx2 fz2)
    | (at_builtin
       with_reducible refine gate_append ?_
       refine wpList_app (by rfl) _ _ (by rfl) (w.heap.size + 1) 0 _ _ 0 1 [] _ (by rfl) (by rfl) (World.ownsRow_nil _ _ _ _) (own_lone (Nat.zero_le _) (heap_at (by rfl))) (lone_one _) (by omega) (by simp; try omega) ?_
       intro v2 w2 HA2
       have L2 := L1.next ((Below.alloc (Below.refl _ _) (by omega) _).trans (HA2.below (World.ownsRow_nil _ _ _ _) (by simp; omega)))
       have HO2 := Lib.hid HA2.own
       obtain ⟨fx2, fz2⟩ := L2.cells
       have hs2 := L2.size
       have HL2 := Lib.hid L2.below
       have HN2 := Lib.hid L2
       clear HA2 L2 L1 fx1 fz1))
  refine bodyPost_ret (by simp [results, Tryd.results71, go_sem]; rfl) rfl ?_
  have hx := HO3.out
  have hy := HL3.out
  refine ansE_two hx ?_ hy
  (first | (simp [Pl.dEnd]; done) | (simp [Pl.dEnd, Pl.byte]; done) | (rfl))

theorem end_any (e : Int) (s : St) (w : World) (h : dOk e s) :
    Calls Tryd.prog 71 #[.int .i64 e, stV s] w fun e w' => AnsE w (Pl.dEnd s) e w' := by
  have hok := h
  rcases shape_of e s h with _ | ⟨n, cd, f, t, hn, h0, h1, h2, h3, hf, ht⟩ | ⟨m, hm⟩ | ⟨m, hm⟩ | ⟨m, hm⟩ | ⟨m, hm⟩ | ⟨l, h0, h1⟩ | _ | ⟨l, h0, h1⟩ | _ | ⟨_, hh, he, hh2⟩ | ⟨_, hh, l, he, hh2⟩
  · exact end_zero 1 0 w (by omega) hok
  · rcases hn with rfl | rfl | rfl
    · exact end_need1 1 cd f t w (by omega) hok
    · exact end_need2 1 cd f t w (by omega) hok
    · exact end_need3 1 cd f t w (by omega) hok
  · exact end_zero 2 m w (by omega) hok
  · exact end_lone 2 27 m w (by omega) hok
  · rcases hm with rfl | rfl
    · exact end_two0 2 w (by omega) hok
    · exact end_two1 2 w (by omega) hok
  · rcases hm with rfl | rfl
    · exact end_dol0 2 w (by omega) hok
    · exact end_dol1 2 w (by omega) hok
  · exact end_lone 2 l 1 w (by omega) hok
  · exact end_zero 3 0 w (by omega) hok
  · exact end_lone 3 l 0 w (by omega) hok
  · exact end_zero 4 0 w (by omega) hok
  · rcases hh2 with rfl | ⟨h0, h1⟩
    · exact end_zero e 0 w (by omega) hok
    · exact end_half e hh h0 w (by omega) hok
  · rcases hh2 with rfl | ⟨h0, h1⟩
    · exact end_lone e l 0 w (by omega) hok
    · exact end_lone_half e l hh h0 w (by omega) hok
end Go.Proofs.YtefohnbmifblkaaDoor
