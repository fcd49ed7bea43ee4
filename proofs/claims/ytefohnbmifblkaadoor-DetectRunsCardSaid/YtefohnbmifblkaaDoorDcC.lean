/-
  The walks of decode.pairs, and of decode.shift behind two kept bytes.
-/
import Derived.Test.YtefohnbmifblkaaDoorDcB
namespace Go.Proofs.YtefohnbmifblkaaDoor
open Go.RowKit
open Pl (St st0 byte)

theorem or_8 (x y : Int) (hx : 0 ≤ x) (hx1 : x < 1000) (hy : 0 ≤ y) (hy1 : y < 256) : bits .or .i64 (x * 256) y = x * 256 + y :=
  bits_join .i64 40 (by decide) (fun n h0 h1 => by rw [IntKind.wrap_i64]; omega) 8 (x * 256) y (by omega) (by omega) (by omega) hy hy1 (by omega)

/-- a later world in which the call's two own rows stand as they were laid. -/
structure Two (w : World) (x y : Array Value) (t : TypeId) (w1 : World) : Prop where
  below : Below w.heap.size w w1
  hx : w1.heap[w.heap.size]? = some (.cells x t (0, 0))
  hy : w1.heap[w.heap.size + 1]? = some (.cells y t (0, 0))
  size : w.heap.size + 2 ≤ w1.heap.size
theorem Two.of {w w1 : World} {x y : Array Value} {t : TypeId} (h : Below (w.heap.size + 1 + 1) ((w.alloc (.cells x t)).alloc (.cells y t)) w1) : Two w x y t w1 := by
  have hs := h.size
  simp only [World.size_alloc] at hs
  have h2 : Below w.heap.size w ((w.alloc (.cells x t)).alloc (.cells y t)) := Below.alloc (Below.alloc (Below.refl _ _) (Nat.le_refl _) _) (by simp) _
  refine ⟨h2.trans (h.mono (by omega)), ?_, ?_, by omega⟩
  · rw [h.block _ (by omega)]
    show ((w.alloc (.cells x t)).heap.push _)[_]? = _
    rw [Array.getElem?_push, if_neg (by rw [World.size_alloc]; omega)]
    exact heap_alloc_new w _
  · rw [h.block _ (by omega)]
    have := heap_alloc_new (w.alloc (.cells x t)) (.cells y t)
    simpa only [World.size_alloc] using this
theorem Two.cells {w w1 : World} {x y : Array Value} {t : TypeId} (h : Two w x y t w1) :
    (∀ k, w1.cell? ⟨w.heap.size, k, none⟩ = x[k]?) ∧ (∀ k, w1.cell? ⟨w.heap.size + 1, k, none⟩ = y[k]?) ∧ (∀ k, w1.frozen? ⟨w.heap.size, k, none⟩ = false) ∧ (∀ k, w1.frozen? ⟨w.heap.size + 1, k, none⟩ = false) :=
  ⟨fun k => cell_of_row w1 _ k _ _ _ h.hx, fun k => cell_of_row w1 _ k _ _ _ h.hy, fun _ => by unfold World.frozen?; simp [h.hx], fun _ => by unfold World.frozen?; simp [h.hy]⟩

theorem own_lone {w : World} {n base : Nat} {x : Int} (hb : base ≤ n) (h : w.heap[n]? = some (.cells #[.int .i64 x] 3 (0, 0))) : w.ownsRow base 3 1 (.slice (some ⟨n, 0, none⟩) 1 1) 1 [.int .i64 x] :=
  ⟨rfl, .inr ⟨n, 1, _, rfl, hb, h, Nat.le_refl _, by unfold maxLen; omega, rfl, rfl⟩⟩
theorem lone_one (x : Int) : ∀ y ∈ [Value.int .i64 x], y.oneCell' = true := by
  intro y hy
  rw [List.mem_singleton] at hy
  subst hy
  rfl
theorem heap_at2 {w : World} {o p : Obj} {n : Nat} (h : w.heap.size = n) : ((w.alloc o).alloc p).heap[n]? = some o := by
  rw [Go.Deep.blk_alloc_lt _ _ _ (by rw [World.size_alloc]; omega)]
  exact heap_at h
theorem own_set {w : World} {base : Nat} {e : TypeId} {s n : Nat} {v : Value} {xs : List Value} (h : w.ownsRow base e s v n xs) (p : Addr) (hp : p.block < base) (u : Value) : (w.setCell p u).ownsRow base e s v n xs := by
  refine ⟨h.1, ?_⟩
  rcases h.2 with h0 | ⟨g, cap, cur, hv, hb, hh, hr⟩
  · exact .inl h0
  · exact .inr ⟨g, cap, cur, hv, hb, (Go.Deep.blk_setCell_other w p u g (by omega)).trans hh, hr⟩
theorem ans_app1 {w w1 w' : World} {r : St × List Int × Bool} {n cd f t : Int} {k : Array UInt8} {h m : Int} {q : Bool} {x : Int} {v : Value} (_ : w1.ownsRow (w.heap.size + 1 + 1) 3 1 v (0 + 1) ([] ++ [.int .i64 x])) (hr : r = (⟨n, cd, f, t, k.toList, h, m⟩, [x], q)) (hv : w'.ownsRow (w.heap.size + 1 + 1) 3 1 v (0 + 1) ([] ++ [.int .i64 x])) (hb : Below w.heap.size w w') :
    Ans w r (.returned (.tuple #[.agg #[.int .i64 n, .int .i64 cd, .int .i64 f, .int .i64 t, .string ⟨k⟩, .int .i64 h, .int .i64 m], v, .bool q])) w' := by
  subst hr
  exact ⟨⟨_, rfl, hv.mono (by omega)⟩, hb⟩
theorem ans_app2 {w w1 w' : World} {r : St × List Int × Bool} {n cd f t : Int} {k : Array UInt8} {h m : Int} {q : Bool} {x y : Int} {v : Value} (_ : w1.ownsRow (w.heap.size + 1 + 1) 3 1 v (1 + 1) ([.int .i64 x] ++ [.int .i64 y])) (hr : r = (⟨n, cd, f, t, k.toList, h, m⟩, [x, y], q)) (hv : w'.ownsRow (w.heap.size + 1 + 1) 3 1 v (1 + 1) ([.int .i64 x] ++ [.int .i64 y])) (hb : Below w.heap.size w w') :
    Ans w r (.returned (.tuple #[.agg #[.int .i64 n, .int .i64 cd, .int .i64 f, .int .i64 t, .string ⟨k⟩, .int .i64 h, .int .i64 m], v, .bool q])) w' := by
  subst hr
  exact ⟨⟨_, rfl, hv.mono (by omega)⟩, hb⟩
theorem conv_kept (c : UInt8) (b : Nat) (hb : c.toNat = b) (w : World) (A B C : Array Value) :
    (convert 69 9 (.slice (some ⟨w.heap.size + 1 + 1 + 1, 0, none⟩) 1 1)).run Tryd.prog ((((w.alloc (.cells A 92)).alloc (.cells B 92)).alloc (.cells C 3)).alloc (.cells #[.int .u8 (b : Int)] 5)) = .ok (.string ⟨#[c]⟩) ((((w.alloc (.cells A 92)).alloc (.cells B 92)).alloc (.cells C 3)).alloc (.cells #[.int .u8 (b : Int)] 5)) := by
  refine run_convert_bytes_back _ 69 9 5 ⟨w.heap.size + 1 + 1 + 1, 0, none⟩ 1 [c] Tryd.underlying69 Tryd.underlying5 Tryd.underlying9 fun j hj => ?_
  have : j = 0 := by simpa using hj
  subst this
  subst hb
  exact (cell_of_row _ (w.heap.size + 1 + 1 + 1) 0 _ _ _ (heap_at (by simp))).trans rfl
theorem app_two {w w1 : World} {A B : Array Value} {ty : TypeId} {r : Obj} {v v' : Value} {n k : Nat} {xs ys : List Value} (h : Appd (((w.alloc (.cells A ty)).alloc (.cells B ty)).alloc r) (w.heap.size + 1 + 1) v n xs v' w1) (hv : (((w.alloc (.cells A ty)).alloc (.cells B ty)).alloc r).ownsRow (w.heap.size + 1 + 1) 3 1 v k ys) : Two w A B ty w1 :=
  Two.of ((Below.alloc (Below.refl _ _) (by simp) _).trans (h.below hv (by simp)))
theorem app_two2 {w w1 : World} {A B : Array Value} {ty : TypeId} {r r2 : Obj} {v v' : Value} {n k : Nat} {xs ys : List Value} (h : Appd ((((w.alloc (.cells A ty)).alloc (.cells B ty)).alloc r).alloc r2) (w.heap.size + 1 + 1) v n xs v' w1) (hv : ((((w.alloc (.cells A ty)).alloc (.cells B ty)).alloc r).alloc r2).ownsRow (w.heap.size + 1 + 1) 3 1 v k ys) : Two w A B ty w1 :=
  Two.of ((Below.alloc (Below.alloc (Below.refl _ _) (by simp) _) (by simp) _).trans (h.below hv (by simp)))

set_option maxRecDepth 100000 in
set_option maxHeartbeats 4000000 in
theorem pairs_nil (lo : Bool) (h : Int) (c : UInt8) (w : World) :
    Calls Tryd.prog 113 #[stV ⟨0, 0, 0, 0, [], h, 0⟩, .int .i64 (c.toNat : Int), .bool lo] w fun e w' => Ans w (Pl.dPairs lo ⟨0, 0, 0, 0, [], h, 0⟩ c) e w' := by
  obtain ⟨b, hb⟩ : ∃ b : Nat, c.toNat = b := ⟨_, rfl⟩
  have hb2 : (b : Int) ≤ 255 := by have := c.toNat_lt; omega
  have HB := Lib.hid hb
  rw [hb]
  clear hb
  unfold stV
  have hcv := conv_one c b HB.out w
  go_enter Tryd.func113, Tryd.ntmps113
  go_wp2_with fail
  refine bodyPost_ret (by simp [results, Tryd.results113, go_sem]; rfl) rfl ?_
  refine ans_nil (Pl.pairs_nil lo h c) ?_
  repeat (first | exact Below.refl _ _ | refine Below.alloc ?_ (by simp; try omega) _ | refine Below.setCell ?_ (by simp; try omega) _)

set_option maxRecDepth 100000 in
set_option maxHeartbeats 4000000 in
theorem pairs_low0 (l c : UInt8) (w : World) :
    Calls Tryd.prog 113 #[stV ⟨0, 0, 0, 0, [l], 0, 0⟩, .int .i64 (c.toNat : Int), .bool true] w fun e w' => Ans w (Pl.dPairs true ⟨0, 0, 0, 0, [l], 0, 0⟩ c) e w' := by
  obtain ⟨b, hb⟩ : ∃ b : Nat, c.toNat = b := ⟨_, rfl⟩
  have hb2 : (b : Int) ≤ 255 := by have := c.toNat_lt; omega
  have HB := Lib.hid hb
  rw [hb]
  clear hb
  unfold stV
  obtain ⟨k, hk⟩ : ∃ k : Nat, l.toNat = k := ⟨_, rfl⟩
  have hix := str_first l k hk
  have hk2 : (k : Int) ≤ 255 := by have := l.toNat_lt; omega
  have HK := Lib.hid hk
  clear hk
  have hor1 := or_8 k b (by omega) (by omega) (by omega) (by omega)
  have hor2 := or_8 b k (by omega) (by omega) (by omega) (by omega)
  go_enter Tryd.func113, Tryd.ntmps113
  go_wp2_with (first
    | (at_builtin
       refine wpList_app (by rfl) _ _ (by rfl) (w.heap.size + 1 + 1) (w.heap.size + 1 + 1) _ _ 0 1 [] _ (by rfl) (by rfl) (World.ownsRow_nil _ _ _ _) (own_lone (Nat.le_refl _) (heap_at (by simp))) (lone_one _) (by omega) (by simp) ?_
       intro v' w1 HA
       have L := app_two HA (World.ownsRow_nil _ _ _ _)
       have HO := Lib.hid HA.own
       obtain ⟨fx, fy, fz, fw⟩ := L.cells
       have HL := Lib.hid L.below
       clear HA L))
  all_goals
    refine bodyPost_ret (by first | (simp [results, Tryd.results113, go_sem]; rfl) | (simp [results, Tryd.results113, go_sem, fy]; rfl)) rfl ?_
    first
      | refine ans_nil ?_ ?_
      | refine ans_one ?_ (by omega) (heap_at (by simp)) ?_
      | refine ans_app1 HO.out ?_ ?_ ?_
      | refine ans_app2 HO.out ?_ ?_ ?_
    all_goals first
      | ((repeat (refine own_set ?_ _ (by simp; try omega) _)); with_reducible exact HO.out)
      | ((repeat (first | with_reducible exact HL.out | with_reducible exact Below.refl _ _ | refine Below.setCell ?_ (by simp; try omega) _ | refine Below.alloc ?_ (by simp; try omega) _)); done)
      | skip
    have hc := HB.out
    unfold Pl.dPairs byte
    rw [hc]
    dsimp only
    rw [HK.out]
    simp only [if_true]
    repeat (first | rw [if_neg (by omega)] | rw [if_pos (by omega)])
    try rfl

set_option maxRecDepth 100000 in
set_option maxHeartbeats 4000000 in
theorem pairs_low1 (l c : UInt8) (h : Int) (hh0 : 55296 ≤ h) (hh1 : h ≤ 56319) (w : World) :
    Calls Tryd.prog 113 #[stV ⟨0, 0, 0, 0, [l], h, 0⟩, .int .i64 (c.toNat : Int), .bool true] w fun e w' => Ans w (Pl.dPairs true ⟨0, 0, 0, 0, [l], h, 0⟩ c) e w' := by
  obtain ⟨b, hb⟩ : ∃ b : Nat, c.toNat = b := ⟨_, rfl⟩
  have hb2 : (b : Int) ≤ 255 := by have := c.toNat_lt; omega
  have HB := Lib.hid hb
  rw [hb]
  clear hb
  unfold stV
  obtain ⟨k, hk⟩ : ∃ k : Nat, l.toNat = k := ⟨_, rfl⟩
  have hix := str_first l k hk
  have hk2 : (k : Int) ≤ 255 := by have := l.toNat_lt; omega
  have HK := Lib.hid hk
  clear hk
  have hor1 := or_8 k b (by omega) (by omega) (by omega) (by omega)
  have hor2 := or_8 b k (by omega) (by omega) (by omega) (by omega)
  have hhn : ¬ h = 0 := by omega
  go_enter Tryd.func113, Tryd.ntmps113
  go_wp2_with (first
    | (at_builtin
       refine wpList_app (by rfl) _ _ (by rfl) (w.heap.size + 1 + 1) (w.heap.size + 1 + 1) _ _ 1 1 [.int .i64 (-1)] _ (by rfl) (by rfl) (own_lone (Nat.le_refl _) (heap_at2 (by simp))) (own_lone (by omega) (heap_at (by simp))) (lone_one _) (by omega) (by simp; try omega) ?_
       intro v' w1 HA
       have L := app_two2 HA (own_lone (Nat.le_refl _) (heap_at2 (by simp)))
       have HO := Lib.hid HA.own
       obtain ⟨fx, fy, fz, fw⟩ := L.cells
       have HL := Lib.hid L.below
       clear HA L))
  all_goals
    refine bodyPost_ret (by first | (simp [results, Tryd.results113, go_sem]; rfl) | (simp [results, Tryd.results113, go_sem, fy]; rfl)) rfl ?_
    first
      | refine ans_nil ?_ ?_
      | refine ans_one ?_ (by omega) (heap_at (by simp)) ?_
      | refine ans_app1 HO.out ?_ ?_ ?_
      | refine ans_app2 HO.out ?_ ?_ ?_
    all_goals first
      | ((repeat (refine own_set ?_ _ (by simp; try omega) _)); with_reducible exact HO.out)
      | ((repeat (first | with_reducible exact HL.out | with_reducible exact Below.refl _ _ | refine Below.setCell ?_ (by simp; try omega) _ | refine Below.alloc ?_ (by simp; try omega) _)); done)
      | skip
    have hc := HB.out
    unfold Pl.dPairs byte
    rw [hc]
    dsimp only
    rw [HK.out]
    simp only [if_true]
    repeat (first | rw [if_neg (by omega)] | rw [if_pos (by omega)])
    try rfl

set_option maxRecDepth 100000 in
set_option maxHeartbeats 4000000 in
theorem pairs_high0 (l c : UInt8) (w : World) :
    Calls Tryd.prog 113 #[stV ⟨0, 0, 0, 0, [l], 0, 0⟩, .int .i64 (c.toNat : Int), .bool false] w fun e w' => Ans w (Pl.dPairs false ⟨0, 0, 0, 0, [l], 0, 0⟩ c) e w' := by
  obtain ⟨b, hb⟩ : ∃ b : Nat, c.toNat = b := ⟨_, rfl⟩
  have hb2 : (b : Int) ≤ 255 := by have := c.toNat_lt; omega
  have HB := Lib.hid hb
  rw [hb]
  clear hb
  unfold stV
  obtain ⟨k, hk⟩ : ∃ k : Nat, l.toNat = k := ⟨_, rfl⟩
  have hix := str_first l k hk
  have hk2 : (k : Int) ≤ 255 := by have := l.toNat_lt; omega
  have HK := Lib.hid hk
  clear hk
  have hor1 := or_8 k b (by omega) (by omega) (by omega) (by omega)
  have hor2 := or_8 b k (by omega) (by omega) (by omega) (by omega)
  go_enter Tryd.func113, Tryd.ntmps113
  go_wp2_with (first
    | (at_builtin
       refine wpList_app (by rfl) _ _ (by rfl) (w.heap.size + 1 + 1) (w.heap.size + 1 + 1) _ _ 0 1 [] _ (by rfl) (by rfl) (World.ownsRow_nil _ _ _ _) (own_lone (Nat.le_refl _) (heap_at (by simp))) (lone_one _) (by omega) (by simp) ?_
       intro v' w1 HA
       have L := app_two HA (World.ownsRow_nil _ _ _ _)
       have HO := Lib.hid HA.own
       obtain ⟨fx, fy, fz, fw⟩ := L.cells
       have HL := Lib.hid L.below
       clear HA L))
  all_goals
    refine bodyPost_ret (by first | (simp [results, Tryd.results113, go_sem]; rfl) | (simp [results, Tryd.results113, go_sem, fy]; rfl)) rfl ?_
    first
      | refine ans_nil ?_ ?_
      | refine ans_one ?_ (by omega) (heap_at (by simp)) ?_
      | refine ans_app1 HO.out ?_ ?_ ?_
      | refine ans_app2 HO.out ?_ ?_ ?_
    all_goals first
      | ((repeat (refine own_set ?_ _ (by simp; try omega) _)); with_reducible exact HO.out)
      | ((repeat (first | with_reducible exact HL.out | with_reducible exact Below.refl _ _ | refine Below.setCell ?_ (by simp; try omega) _ | refine Below.alloc ?_ (by simp; try omega) _)); done)
      | skip
    have hc := HB.out
    unfold Pl.dPairs byte
    rw [hc]
    dsimp only
    rw [HK.out]
    simp only [Bool.false_eq_true, if_false]
    repeat (first | rw [if_neg (by omega)] | rw [if_pos (by omega)])
    try rfl

set_option maxRecDepth 100000 in
set_option maxHeartbeats 4000000 in
theorem pairs_high1 (l c : UInt8) (h : Int) (hh0 : 55296 ≤ h) (hh1 : h ≤ 56319) (w : World) :
    Calls Tryd.prog 113 #[stV ⟨0, 0, 0, 0, [l], h, 0⟩, .int .i64 (c.toNat : Int), .bool false] w fun e w' => Ans w (Pl.dPairs false ⟨0, 0, 0, 0, [l], h, 0⟩ c) e w' := by
  obtain ⟨b, hb⟩ : ∃ b : Nat, c.toNat = b := ⟨_, rfl⟩
  have hb2 : (b : Int) ≤ 255 := by have := c.toNat_lt; omega
  have HB := Lib.hid hb
  rw [hb]
  clear hb
  unfold stV
  obtain ⟨k, hk⟩ : ∃ k : Nat, l.toNat = k := ⟨_, rfl⟩
  have hix := str_first l k hk
  have hk2 : (k : Int) ≤ 255 := by have := l.toNat_lt; omega
  have HK := Lib.hid hk
  clear hk
  have hor1 := or_8 k b (by omega) (by omega) (by omega) (by omega)
  have hor2 := or_8 b k (by omega) (by omega) (by omega) (by omega)
  have hhn : ¬ h = 0 := by omega
  go_enter Tryd.func113, Tryd.ntmps113
  go_wp2_with (first
    | (at_builtin
       refine wpList_app (by rfl) _ _ (by rfl) (w.heap.size + 1 + 1) (w.heap.size + 1 + 1) _ _ 1 1 [.int .i64 (-1)] _ (by rfl) (by rfl) (own_lone (Nat.le_refl _) (heap_at2 (by simp))) (own_lone (by omega) (heap_at (by simp))) (lone_one _) (by omega) (by simp; try omega) ?_
       intro v' w1 HA
       have L := app_two2 HA (own_lone (Nat.le_refl _) (heap_at2 (by simp)))
       have HO := Lib.hid HA.own
       obtain ⟨fx, fy, fz, fw⟩ := L.cells
       have HL := Lib.hid L.below
       clear HA L))
  all_goals
    refine bodyPost_ret (by first | (simp [results, Tryd.results113, go_sem]; rfl) | (simp [results, Tryd.results113, go_sem, fy]; rfl)) rfl ?_
    first
      | refine ans_nil ?_ ?_
      | refine ans_one ?_ (by omega) (heap_at (by simp)) ?_
      | refine ans_app1 HO.out ?_ ?_ ?_
      | refine ans_app2 HO.out ?_ ?_ ?_
    all_goals first
      | ((repeat (refine own_set ?_ _ (by simp; try omega) _)); with_reducible exact HO.out)
      | ((repeat (first | with_reducible exact HL.out | with_reducible exact Below.refl _ _ | refine Below.setCell ?_ (by simp; try omega) _ | refine Below.alloc ?_ (by simp; try omega) _)); done)
      | skip
    have hc := HB.out
    unfold Pl.dPairs byte
    rw [hc]
    dsimp only
    rw [HK.out]
    simp only [Bool.false_eq_true, if_false]
    repeat (first | rw [if_neg (by omega)] | rw [if_pos (by omega)])
    try rfl
end Go.Proofs.YtefohnbmifblkaaDoor
