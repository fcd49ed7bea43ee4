/-
  append onto a slice of replies that the call owns, of one that it has built; append of acts onto nil.
-/
import Derived.Test.YtefohnbmifblkabDoorApp
import Derived.Test.YtefohnbmifblkabDoorTpG
import Derived.Test.YtefohnbmifblkabDoorTpR
namespace Go.Proofs.YtefohnbmifblkabDoor
open Go.RowKit

/-- what the append leaves. -/
structure AppdR (w : World) (base : Nat) (v : Value) (n : Nat) (xs : List Value) (v' : Value) (w' : World) : Prop where
  own : w'.ownsRow base 34 5 v' n xs
  grown : w.grownBy w' v.ownBlock
  at_ : v'.ownBlock = v.ownBlock ∨ v'.ownBlock = some w.heap.size

theorem run_appR (w : World) (base : Nat) (ty : TypeId) (v : Value) (n : Nat) (xs : List Value) (g : Nat) (c0 c1 c2 c3 c4 : Value) (hv : w.ownsRow base 34 5 v n xs) (hg : w.heap[g]? = some (.cells #[c0, c1, c2, c3, c4] 34 (0, 0)))
    (h1 : ∀ u ∈ [c0, c1, c2, c3, c4], u.oneCell' = true) (h63 : n ≤ 1000) (hbase : base ≤ w.heap.size) :
    ∃ v' w', (Builtin.append_ #[40, 40] ty #[v, .slice (some ⟨g, 0, none⟩) 1 1]).run Tryd.prog w = .ok v' w' ∧ AppdR w base v (n + 1) (xs ++ [c0, c1, c2, c3, c4]) v' w' := by
  have hI : (Tryd.prog.info? 34).map (fun i => (i.zero, i.size, i.bytes)) = some (some (.agg #[.int .i64 0, .int .i64 0, .int .i64 0, .bool false, .slice none 0 0]), 5, 56) := by kernel_rfl
  obtain ⟨i, hi, h3⟩ := Option.map_eq_some_iff.1 hI
  simp only [Prod.mk.injEq] at h3
  obtain ⟨hz, hz0, hz1⟩ := h3
  have hc := fun k => cell_of_row w g k _ _ _ hg
  obtain ⟨v', w', hr, h2, h3, _, h5⟩ := run_append_own_at (P := Tryd.prog) w base 40 ty 34 i _ 5 56 Tryd.underlying40 hi hz hz0 hz1 rfl (by decide) v n xs hv ⟨g, 0, none⟩ 1 1 [c0, c1, c2, c3, c4] rfl (by
    intro j u hj
    rw [show (⟨g, 0, none⟩ : Addr).add j = ⟨g, j, none⟩ by unfold Addr.add; split <;> simp_all]
    rw [hc j]
    simpa using hj) h1 (by unfold maxLen; omega) (by omega) hbase
  exact ⟨v', w', hr, h2, h3, h5⟩

theorem wp_appR {w : World} {o : Oper} {a : Act} {K : Act → World → Prop} {Q : Exit → Act → World → Prop} (s x : Operand)
    (ho : o.op = .call { callee := .builtin .append, args := #[s, x], argTypes := #[40, 40] })
    (base : Nat) (v : Value) (n : Nat) (xs : List Value) (g : Nat) (c0 c1 c2 c3 c4 : Value) (hs : a.eval s = v) (hx : a.eval x = .slice (some ⟨g, 0, none⟩) 1 1) (hv : w.ownsRow base 34 5 v n xs) (hg : w.heap[g]? = some (.cells #[c0, c1, c2, c3, c4] 34 (0, 0)))
    (h1 : ∀ u ∈ [c0, c1, c2, c3, c4], u.oneCell' = true) (h63 : n ≤ 1000) (hbase : base ≤ w.heap.size)
    (h : ∀ v' w', AppdR w base v (n + 1) (xs ++ [c0, c1, c2, c3, c4]) v' w' → K (a.put o.dst v') w') : o.wp Tryd.prog a w K Q := by
  obtain ⟨v', w', hr, h2⟩ := run_appR w base o.type v n xs g c0 c1 c2 c3 c4 hv hg h1 h63 hbase
  unfold Oper.wp execOp
  simp only [ho, resolve, invoke, builtin, Sem.run_bind, Sem.run_pure, Result.andThen_ok, List.map_toArray, List.map_cons, List.map_nil, hs, hx, hr]
  exact h v' w' h2

theorem wpList_appR {w : World} {ops : Array Oper} {rest : List Oper} {o : Oper} {a : Act} {Q : Exit → Act → World → Prop} (hgd : o.guard = none) (s x : Operand)
    (ho : o.op = .call { callee := .builtin .append, args := #[s, x], argTypes := #[40, 40] })
    (base : Nat) (v : Value) (n : Nat) (xs : List Value) (g : Nat) (c0 c1 c2 c3 c4 : Value) (hs : a.eval s = v) (hx : a.eval x = .slice (some ⟨g, 0, none⟩) 1 1) (hv : w.ownsRow base 34 5 v n xs) (hg : w.heap[g]? = some (.cells #[c0, c1, c2, c3, c4] 34 (0, 0)))
    (h1 : ∀ u ∈ [c0, c1, c2, c3, c4], u.oneCell' = true) (h63 : n ≤ 1000) (hbase : base ≤ w.heap.size)
    (h : ∀ v' w', AppdR w base v (n + 1) (xs ++ [c0, c1, c2, c3, c4]) v' w' → wpList Tryd.prog ops Q rest (a.put o.dst v') w') : wpList Tryd.prog ops Q (o :: rest) a w :=
  wpList_plain hgd fun _ hK => wp_appR s x ho base v n xs g c0 c1 c2 c3 c4 hs hx hv hg h1 h63 hbase fun v' w' h2 => hK _ _ (h v' w' h2)

/-- the cells of acts, in their order. -/
def actCells (l : List Ac) : List Value := l.flatMap fun a => [.int .i64 a.1, .string a.2]
theorem actCells_len : ∀ l : List Ac, (actCells l).length = l.length * 2
  | [] => rfl
  | a :: l => by
    show (_ ++ actCells l).length = _
    rw [List.length_append, actCells_len l, List.length_cons]
    simp
    omega
theorem actCells_at : ∀ (l : List Ac) (j : Nat) (x : Ac), l[j]? = some x → (actCells l)[j * 2]? = some (.int .i64 x.1) ∧ (actCells l)[j * 2 + 1]? = some (.string x.2)
  | [], _, _, h => by simp at h
  | a :: l, 0, x, h => by
    simp at h
    subst h
    exact ⟨rfl, rfl⟩
  | a :: l, j + 1, x, h => by
    have ih := actCells_at l j x (by simpa using h)
    show (([.int .i64 a.1, .string a.2] : List Value) ++ actCells l)[(j + 1) * 2]? = _ ∧ (([.int .i64 a.1, .string a.2] : List Value) ++ actCells l)[(j + 1) * 2 + 1]? = _
    rw [List.getElem?_append_right (by simp; omega), List.getElem?_append_right (by simp; omega)]
    rw [show (j + 1) * 2 - ([.int .i64 a.1, .string a.2] : List Value).length = j * 2 by simp; omega, show (j + 1) * 2 + 1 - ([.int .i64 a.1, .string a.2] : List Value).length = j * 2 + 1 by simp; omega]
    exact ih
theorem actCells_of (l : List Ac) (j : Nat) (u : Value) (h : (actCells l)[j]? = some u) : ∃ i x, l[i]? = some x ∧ ((j = i * 2 ∧ u = .int .i64 x.1) ∨ (j = i * 2 + 1 ∧ u = .string x.2)) := by
  have hj := (List.getElem?_eq_some_iff.1 h).1
  rw [actCells_len] at hj
  obtain ⟨x, hx⟩ : ∃ x, l[j / 2]? = some x := ⟨_, List.getElem?_eq_getElem (by omega)⟩
  obtain ⟨h0, h1⟩ := actCells_at l (j / 2) x hx
  refine ⟨j / 2, x, hx, ?_⟩
  rcases Nat.mod_two_eq_zero_or_one j with hm | hm
  · left
    have hj2 : j / 2 * 2 = j := by omega
    rw [hj2, h] at h0
    exact ⟨by omega, by injection h0⟩
  · right
    have hj2 : j / 2 * 2 + 1 = j := by omega
    rw [hj2, h] at h1
    exact ⟨by omega, by injection h1⟩

theorem run_appA (w : World) (ty : TypeId) (v : Value) (l : List Ac) (hl : Acts w v l) (hn : l.length ≤ 5000000000000) :
    ∃ v' w', (Builtin.append_ #[22, 22] ty #[.slice none 0 0, v]).run Tryd.prog w = .ok v' w' ∧ Acts w' v' l ∧ Below w.heap.size w w' := by
  have hI : (Tryd.prog.info? 24).map (fun i => (i.zero, i.size, i.bytes)) = some (some (.agg #[.int .i64 0, .string ⟨#[]⟩]), 2, 24) := by kernel_rfl
  obtain ⟨i, hi, h3⟩ := Option.map_eq_some_iff.1 hI
  simp only [Prod.mk.injEq] at h3
  obtain ⟨hz, hz0, hz1⟩ := h3
  obtain ⟨a, c, rfl, hlen, hsz, hcs⟩ := hl
  rcases hcs with rfl | ⟨g, off, rfl, hcs⟩
  · refine ⟨.slice none 0 0, w, ?_, ⟨none, 0, rfl, Nat.zero_le _, hsz, .inl rfl⟩, Below.refl _ _⟩
    cases a <;> simp [Builtin.append_, run_underlying Tryd.underlying22, sizeOf, typeInfo, hi, Builtin.lenOf, Builtin.firstCells, loadCells, loadCellsFrom]
  · obtain ⟨v', w', hr, h2, h3, _, h5⟩ := run_append_own_at (P := Tryd.prog) w w.heap.size 22 ty 24 i _ 2 24 Tryd.underlying22 hi hz hz0 hz1 rfl (by decide) (.slice none 0 0) 0 [] (World.ownsRow_nil w w.heap.size _ 2) ⟨g, off, none⟩ l.length c (actCells l) (actCells_len l) (by
      intro j u hj
      obtain ⟨i, x, hx, h⟩ := actCells_of l j u hj
      rw [show (⟨g, off, none⟩ : Addr).add j = ⟨g, off + j, none⟩ by unfold Addr.add; split <;> simp_all]
      rcases h with ⟨rfl, rfl⟩ | ⟨rfl, rfl⟩
      · exact (hcs i x hx).1
      · rw [show off + (i * 2 + 1) = off + i * 2 + 1 by omega]
        exact (hcs i x hx).2) (by
      intro u hu
      obtain ⟨a, _, ha⟩ := List.mem_flatMap.1 hu
      simp at ha
      rcases ha with rfl | rfl <;> rfl) (by omega) (by omega) (Nat.le_refl _)
    rw [Nat.zero_add, List.nil_append] at h2
    refine ⟨v', w', hr, ?_, ⟨h3.os, h3.tape, h3.output, h3.size, fun k hk => h3.block k hk (by simp [Value.ownBlock])⟩⟩
    rcases h2.2 with ⟨rfl, h0⟩ | ⟨g', cap, cur, rfl, hb, hh, hr2⟩
    · have : l = [] := List.eq_nil_of_length_eq_zero h0
      subst this
      exact ⟨none, 0, rfl, Nat.zero_le _, hsz, .inl rfl⟩
    · refine ⟨_, _, rfl, hlen, hsz, .inr ⟨g', 0, rfl, fun j x hj => ?_⟩⟩
      have hcell := h2.cells (g := g') rfl
      obtain ⟨k0, k1⟩ := actCells_at l j x hj
      have e0 := hcell _ _ k0
      have e1 := hcell _ _ k1
      rw [show ∀ k, (⟨g', 0, none⟩ : Addr).add k = ⟨g', 0 + k, none⟩ from fun k => by unfold Addr.add; split <;> simp_all] at e0 e1
      exact ⟨e0, by rw [Nat.add_assoc]; exact e1⟩

theorem wp_appA {w : World} {o : Oper} {a : Act} {K : Act → World → Prop} {Q : Exit → Act → World → Prop} (s x : Operand)
    (ho : o.op = .call { callee := .builtin .append, args := #[s, x], argTypes := #[22, 22] })
    (v : Value) (l : List Ac) (hs : a.eval s = .slice none 0 0) (hx : a.eval x = v) (hl : Acts w v l) (hn : l.length ≤ 5000000000000)
    (h : ∀ v' w', Acts w' v' l → Below w.heap.size w w' → K (a.put o.dst v') w') : o.wp Tryd.prog a w K Q := by
  obtain ⟨v', w', hr, h2, h3⟩ := run_appA w o.type v l hl hn
  unfold Oper.wp execOp
  simp only [ho, resolve, invoke, builtin, Sem.run_bind, Sem.run_pure, Result.andThen_ok, List.map_toArray, List.map_cons, List.map_nil, hs, hx, hr]
  exact h v' w' h2 h3
theorem wpList_appA {w : World} {ops : Array Oper} {rest : List Oper} {o : Oper} {a : Act} {Q : Exit → Act → World → Prop} (hgd : o.guard = none) (s x : Operand)
    (ho : o.op = .call { callee := .builtin .append, args := #[s, x], argTypes := #[22, 22] })
    (v : Value) (l : List Ac) (hs : a.eval s = .slice none 0 0) (hx : a.eval x = v) (hl : Acts w v l) (hn : l.length ≤ 5000000000000)
    (h : ∀ v' w', Acts w' v' l → Below w.heap.size w w' → wpList Tryd.prog ops Q rest (a.put o.dst v') w') : wpList Tryd.prog ops Q (o :: rest) a w :=
  wpList_plain hgd fun _ hK => wp_appA s x ho v l hs hx hl hn fun v' w' h2 h3 => hK _ _ (h v' w' h2 h3)
/-- a beginning of acts. -/
theorem Acts.take {w : World} {p : Option Addr} {c : Nat} {l : List Ac} (h : Acts w (.slice p l.length c) l) (m : Nat) (hm : m ≤ l.length) : Acts w (.slice p m c) (l.take m) := by
  obtain ⟨a, c', he, hlen, hsz, hcs⟩ := h
  injection he with e1 e2 e3
  subst e1 e3
  refine ⟨p, c, by rw [List.length_take, Nat.min_eq_left hm], by rw [List.length_take]; omega, fun x hx => hsz x (List.mem_of_mem_take hx), ?_⟩
  rcases hcs with rfl | ⟨g, off, rfl, hcs⟩
  · left
    simp
  · right
    refine ⟨g, off, rfl, fun j x hj => hcs j x ?_⟩
    rw [List.getElem?_take] at hj
    split at hj
    · exact hj
    · cases hj
end Go.Proofs.YtefohnbmifblkabDoor
