/-
  The walks of decode.twin behind a lead, and of decode.latin.
-/
import Derived.Test.YtefohnbmifblkaaDoorDcA
import Derived.Test.YtefohnbmifblkaaDoorMem
import Derived.Test.YtefohnbmifblkaaDoorRows
import Derived.Deep.AppendLies
import Derived.Laws.CopyOwn
import Derived.Lib.AppendStr
import Derived.Deep.Onto
namespace Go.Proofs.YtefohnbmifblkaaDoor
open Go.RowKit
open Pl (St st0 byte)

set_option maxRecDepth 100000 in
set_option maxHeartbeats 4000000 in
theorem twin_kept (l c : UInt8) (w : World) (h0 : 129 ≤ l.toNat) (h1 : l.toNat ≤ 159) :
    Calls Tryd.prog 111 #[stV ⟨0, 0, 0, 0, [l], 0, 0⟩, .int .i64 (c.toNat : Int)] w fun e w' => Ans w (Pl.dTwin ⟨0, 0, 0, 0, [l], 0, 0⟩ c) e w' := by
  obtain ⟨b, hb⟩ : ∃ b : Nat, c.toNat = b := ⟨_, rfl⟩
  have hb2 : (b : Int) ≤ 255 := by have := c.toNat_lt; omega
  have HB := Lib.hid hb
  rw [hb]
  clear hb
  unfold stV
  obtain ⟨k, hk⟩ : ∃ k : Nat, l.toNat = k := ⟨_, rfl⟩
  have hix := str_first l k hk
  rw [hk] at h0 h1
  have HK := Lib.hid hk
  clear hk
  have hk0 : (129 : Int) ≤ k := by omega
  have hk1 : (k : Int) ≤ 159 := by omega
  go_enter Tryd.func111, Tryd.ntmps111
  go_wp2_with fail
  all_goals
    refine bodyPost_ret (by simp [results, Tryd.results111, go_sem]; rfl) rfl ?_
    first
      | refine ans_nil ?_ ?_
      | refine ans_one ?_ (by omega) (heap_at (by simp)) ?_
    · have hc := HB.out
      simp only at *
      unfold Pl.dTwin byte
      rw [hc]
      dsimp only
      rw [HK.out]
      repeat (first | rw [if_neg (by omega)] | rw [if_pos (by omega)])
      first | done | rfl | exact congrArg (Prod.mk _) (congrArg (Prod.mk _) (decide_eq_true (by omega))) | exact congrArg (Prod.mk _) (congrArg (Prod.mk _) (decide_eq_decide.2 (by omega)))
    · repeat (first | exact Below.refl _ _ | refine Below.alloc ?_ (by simp; try omega) _ | refine Below.setCell ?_ (by simp; try omega) _)

set_option maxRecDepth 100000 in
set_option maxHeartbeats 4000000 in
theorem latin_any (c : UInt8) (w : World) :
    Calls Tryd.prog 112 #[.int .i64 (c.toNat : Int)] w fun e w' => e = .returned (.int .i64 (Pl.dLatin c)) ∧ Drew w w' := by
  obtain ⟨b, hb⟩ : ∃ b : Nat, c.toNat = b := ⟨_, rfl⟩
  have hb2 : (b : Int) ≤ 255 := by have := c.toNat_lt; omega
  have HB := Lib.hid hb
  rw [hb]
  clear hb
  go_enter Tryd.func112, Tryd.ntmps112
  go_wp2_with fail
  all_goals
    go_ret
    refine ⟨ret_int ?_, by first | exact Drew.refl _ | exact ⟨_, rfl⟩⟩
    have hc := HB.out
    try simp only [beq_iff_eq, beq_eq_false_iff_ne] at *
    unfold Pl.dLatin Pl.byte
    rw [hc]
    repeat (first | rw [if_neg (by omega)] | rw [if_pos (by omega)])
end Go.Proofs.YtefohnbmifblkaaDoor

/-
  append onto a slice of ints that the call owns, of another one that it owns (nil too).
-/
namespace Go.Proofs.YtefohnbmifblkaaDoor
open Go.RowKit

/-- what the append leaves. -/
structure Appd (w : World) (base : Nat) (v : Value) (n : Nat) (xs : List Value) (v' : Value) (w' : World) : Prop where
  own : w'.ownsRow base 3 1 v' n xs
  grown : w.grownBy w' v.ownBlock
  at_ : v'.ownBlock = v.ownBlock ∨ v'.ownBlock = some w.heap.size

theorem run_app (w : World) (base base2 : Nat) (ty : TypeId) (v u : Value) (n m : Nat) (xs ys : List Value) (hv : w.ownsRow base 3 1 v n xs) (hu : w.ownsRow base2 3 1 u m ys) (hy1 : ∀ y ∈ ys, y.oneCell' = true)
    (h63 : n + m ≤ 1000000) (hbase : base ≤ w.heap.size) :
    ∃ v' w', (Builtin.append_ #[36, 36] ty #[v, u]).run Tryd.prog w = .ok v' w' ∧ Appd w base v (n + m) (xs ++ ys) v' w' := by
  have hI : (Tryd.prog.info? 3).map (fun i => (i.zero, i.size, i.bytes)) = some (some (.int .i64 0), 1, 8) := by kernel_rfl
  obtain ⟨i, hi, h3⟩ := Option.map_eq_some_iff.1 hI
  simp only [Prod.mk.injEq] at h3
  obtain ⟨hz, hz0, hz1⟩ := h3
  rcases hu.2 with ⟨rfl, rfl⟩ | ⟨g, cap, cur, rfl, hb, hh, hnc, hmx, hsz, htk⟩
  · have hys : ys = [] := List.eq_nil_of_length_eq_zero (by simpa using hu.1)
    subst hys
    rcases hv.2 with ⟨rfl, rfl⟩ | ⟨g', cap', cur', rfl, hb', hh', hnc', hmx', hsz', htk'⟩
    · refine ⟨.slice none 0 0, w, ?_, by simpa using hv, ⟨rfl, rfl, rfl, Nat.le_refl _, fun _ _ _ => rfl⟩, .inl rfl⟩
      simp [Builtin.append_, run_underlying Tryd.underlying36, sizeOf, typeInfo, hi, Builtin.lenOf, Builtin.firstCells]
    · refine ⟨.slice (some ⟨g', 0, none⟩) n cap', w, ?_, by simpa using hv, ⟨rfl, rfl, rfl, Nat.le_refl _, fun _ _ _ => rfl⟩, .inl rfl⟩
      simp [Builtin.append_, run_underlying Tryd.underlying36, sizeOf, typeInfo, hi, Builtin.lenOf, hnc', Builtin.firstCells, storeCells]
  · obtain ⟨v', w', hr, h2, h3, _, h5⟩ := run_append_own_at (P := Tryd.prog) w base 36 ty 3 i (.int .i64 0) 1 8 Tryd.underlying36 hi hz hz0 hz1 rfl (by decide) v n xs hv ⟨g, 0, none⟩ m cap ys hu.1 (hu.cells (g := g) rfl) hy1 (by unfold maxLen; omega) (by omega) hbase
    exact ⟨v', w', hr, h2, h3, h5⟩

theorem wp_app {w : World} {o : Oper} {a : Act} {K : Act → World → Prop} {Q : Exit → Act → World → Prop} (s x : Operand)
    (ho : o.op = .call { callee := .builtin .append, args := #[s, x], argTypes := #[36, 36] })
    (base base2 : Nat) (v u : Value) (n m : Nat) (xs ys : List Value) (hs : a.eval s = v) (hx : a.eval x = u) (hv : w.ownsRow base 3 1 v n xs) (hu : w.ownsRow base2 3 1 u m ys) (hy1 : ∀ y ∈ ys, y.oneCell' = true)
    (h63 : n + m ≤ 1000000) (hbase : base ≤ w.heap.size)
    (h : ∀ v' w', Appd w base v (n + m) (xs ++ ys) v' w' → K (a.put o.dst v') w') : o.wp Tryd.prog a w K Q := by
  obtain ⟨v', w', hr, h2⟩ := run_app w base base2 o.type v u n m xs ys hv hu hy1 h63 hbase
  unfold Oper.wp execOp
  simp only [ho, resolve, invoke, builtin, Sem.run_bind, Sem.run_pure, Result.andThen_ok, List.map_toArray, List.map_cons, List.map_nil, hs, hx, hr]
  exact h v' w' h2

theorem wpList_app {w : World} {ops : Array Oper} {rest : List Oper} {o : Oper} {a : Act} {Q : Exit → Act → World → Prop} (hgd : o.guard = none) (s x : Operand)
    (ho : o.op = .call { callee := .builtin .append, args := #[s, x], argTypes := #[36, 36] })
    (base base2 : Nat) (v u : Value) (n m : Nat) (xs ys : List Value) (hs : a.eval s = v) (hx : a.eval x = u) (hv : w.ownsRow base 3 1 v n xs) (hu : w.ownsRow base2 3 1 u m ys) (hy1 : ∀ y ∈ ys, y.oneCell' = true)
    (h63 : n + m ≤ 1000000) (hbase : base ≤ w.heap.size)
    (h : ∀ v' w', Appd w base v (n + m) (xs ++ ys) v' w' → wpList Tryd.prog ops Q rest (a.put o.dst v') w') : wpList Tryd.prog ops Q (o :: rest) a w :=
  wpList_plain hgd fun _ hK => wp_app s x ho base base2 v u n m xs ys hs hx hv hu hy1 h63 hbase fun v' w' h2 => hK _ _ (h v' w' h2)

theorem step_app {w : World} {ops : Array Oper} {o : Oper} {a : Act} {K : Act → World → Prop} {Q : Exit → Act → World → Prop} {E : Prop} (hgd : o.guard = none) (s x : Operand)
    (ho : o.op = .call { callee := .builtin .append, args := #[s, x], argTypes := #[36, 36] })
    (base base2 : Nat) (v u : Value) (n m : Nat) (xs ys : List Value) (hs : a.eval s = v) (hx : a.eval x = u) (hv : w.ownsRow base 3 1 v n xs) (hu : w.ownsRow base2 3 1 u m ys) (hy1 : ∀ y ∈ ys, y.oneCell' = true)
    (h63 : n + m ≤ 1000000) (hbase : base ≤ w.heap.size)
    (h : ∀ v' w', Appd w base v (n + m) (xs ++ ys) v' w' → K (a.put o.dst v') w') :
    if Region.wanted o (yielded ops a.tmps) = true then Oper.wp Tryd.prog o a w K Q else E := by
  have hw : Region.wanted o (yielded ops a.tmps) = true := by simp [Region.wanted, hgd]
  rw [if_pos hw]
  exact wp_app s x ho base base2 v u n m xs ys hs hx hv hu hy1 h63 hbase h

theorem Appd.below {w w' : World} {base : Nat} {v v' : Value} {n k : Nat} {xs ys : List Value} (h : Appd w base v n xs v' w') (hv : w.ownsRow base 3 1 v k ys) (hb : base ≤ w.heap.size) : Below base w w' :=
  ⟨h.grown.os, h.grown.tape, h.grown.output, h.grown.size, fun i hi => h.grown.block i (by omega) (fun e => by
    rcases hv.2 with ⟨rfl, _⟩ | ⟨g, cap, cur, rfl, hbg, _⟩
    · simp [Value.ownBlock] at e
    · have : i = g := by simpa [Value.ownBlock] using e
      omega)⟩
end Go.Proofs.YtefohnbmifblkaaDoor

/-
  append of a string's bytes onto a row of bytes that the call owns; where the new row lies.
-/
namespace Go.Proofs.YtefohnbmifblkaaDoor
open Go.RowKit

structure Apps (w : World) (base : Nat) (v : Value) (n : Nat) (xs : List Value) (v' : Value) (w' : World) : Prop where
  own : w'.ownsRow base 5 1 v' n xs
  grown : w.grownBy w' v.ownBlock
  at_ : v'.ownBlock = v.ownBlock ∨ ∃ g, v'.ownBlock = some g ∧ w.heap.size ≤ g

theorem run_apps (w : World) (base : Nat) (ty : TypeId) (v : Value) (n : Nat) (xs : List Value) (hv : w.ownsRow base 5 1 v n xs) (s : ByteArray) (h63 : n + s.size ≤ 1000000) (hbase : base ≤ w.heap.size) :
    ∃ v' w', (Builtin.append_ #[69, 9] ty #[v, .string s]).run Tryd.prog w = .ok v' w' ∧ Apps w base v (n + s.size) (xs ++ Lib.strCells s) v' w' := by
  have hI : (Tryd.prog.info? 5).map (fun i => (i.zero, i.size, i.bytes)) = some (some (.int .u8 0), 1, 1) := by kernel_rfl
  obtain ⟨i, hi, h3⟩ := Option.map_eq_some_iff.1 hI
  simp only [Prod.mk.injEq] at h3
  obtain ⟨hz, hz0, hz1⟩ := h3
  have hmax : n + s.size ≤ maxLen := by unfold maxLen; omega
  rcases hv.2 with ⟨rfl, rfl⟩ | ⟨g, cap, cur, rfl, hb, hh, hnc, hcm, hsz, htk⟩
  · have hx : xs = [] := List.eq_nil_of_length_eq_zero (by simpa using hv.1)
    subst hx
    obtain ⟨v', w', hr, h1, h2, _⟩ := Lib.run_append_own_string (P := Tryd.prog) w w.heap.size 69 9 ty 5 i Tryd.underlying69 Tryd.underlying9 hi hz hz0 hz1 (.slice none 0 0) 0 [] (World.ownsRow_nil _ _ _ _) s hmax (by omega) (Nat.le_refl _)
    refine ⟨v', w', hr, World.ownsRow.mono h1 hbase, h2, ?_⟩
    rcases h1.2 with ⟨rfl, _⟩ | ⟨g, cap, cur, rfl, hb, _⟩
    · exact .inl rfl
    · exact .inr ⟨g, rfl, hb⟩
  · obtain ⟨v', w', hr, h1, h2, _⟩ := Lib.run_append_own_string (P := Tryd.prog) w base 69 9 ty 5 i Tryd.underlying69 Tryd.underlying9 hi hz hz0 hz1 _ n xs hv s hmax (by omega) hbase
    refine ⟨v', w', hr, h1, h2, ?_⟩
    by_cases hroom : n + s.size ≤ cap
    · have hr2 := Lib.run_append_room_string (P := Tryd.prog) w 69 9 ty 5 i Tryd.underlying69 Tryd.underlying9 hi hz0 g n cap cur hh s hroom (by omega)
      rw [hr] at hr2
      injection hr2 with hr2 _
      subst hr2
      exact .inl rfl
    · have hr2 := Lib.run_append_grow_string (P := Tryd.prog) w 69 9 ty 5 i (.int .u8 0) Tryd.underlying69 Tryd.underlying9 hi hz ⟨g, 0, none⟩ n cap xs (by rw [hz0]; exact hv.1) (hv.cells (g := g) rfl) s (by omega) (by omega) (by rw [hz1]; exact growslice_fits (by omega) (by omega))
      rw [hr] at hr2
      injection hr2 with hr2 _
      subst hr2
      exact .inr ⟨_, rfl, Nat.le_refl _⟩

theorem step_apps {w : World} {ops : Array Oper} {o : Oper} {a : Act} {K : Act → World → Prop} {Q : Exit → Act → World → Prop} {E : Prop} (hgd : o.guard = none) (sl x : Operand)
    (ho : o.op = .call { callee := .builtin .append, args := #[sl, x], argTypes := #[69, 9] })
    (base : Nat) (v : Value) (n : Nat) (xs : List Value) (s : ByteArray) (hs : a.eval sl = v) (hx : a.eval x = .string s) (hv : w.ownsRow base 5 1 v n xs)
    (h63 : n + s.size ≤ 1000000) (hbase : base ≤ w.heap.size)
    (h : ∀ v' w', Apps w base v (n + s.size) (xs ++ Lib.strCells s) v' w' → K (a.put o.dst v') w') :
    if Region.wanted o (yielded ops a.tmps) = true then Oper.wp Tryd.prog o a w K Q else E := by
  have hw : Region.wanted o (yielded ops a.tmps) = true := by simp [Region.wanted, hgd]
  rw [if_pos hw]
  obtain ⟨v', w', hr, h2⟩ := run_apps w base o.type v n xs hv s h63 hbase
  unfold Oper.wp execOp
  simp only [ho, resolve, invoke, builtin, Sem.run_bind, Sem.run_pure, Result.andThen_ok, List.map_toArray, List.map_cons, List.map_nil, hs, hx, hr]
  exact h v' w' h2
end Go.Proofs.YtefohnbmifblkaaDoor
