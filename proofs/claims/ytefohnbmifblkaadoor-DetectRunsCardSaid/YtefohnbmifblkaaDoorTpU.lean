/-
  append onto a slice of replies that the call owns, of one that it has built; append of acts onto nil.
-/
import Derived.Test.YtefohnbmifblkaaDoorApp
import Derived.Test.YtefohnbmifblkaaDoorDoG
namespace Go.Proofs.YtefohnbmifblkaaDoor
open Go.RowKit

/-- what the append leaves. -/
structure AppdR (w : World) (base : Nat) (v : Value) (n : Nat) (xs : List Value) (v' : Value) (w' : World) : Prop where
  own : w'.ownsRow base 38 5 v' n xs
  grown : w.grownBy w' v.ownBlock
  at_ : v'.ownBlock = v.ownBlock ∨ v'.ownBlock = some w.heap.size

theorem run_appR (w : World) (base : Nat) (ty : TypeId) (v : Value) (n : Nat) (xs : List Value) (g : Nat) (c0 c1 c2 c3 c4 : Value) (hv : w.ownsRow base 38 5 v n xs) (hg : w.heap[g]? = some (.cells #[c0, c1, c2, c3, c4] 38 (0, 0)))
    (h1 : ∀ u ∈ [c0, c1, c2, c3, c4], u.oneCell' = true) (h63 : n ≤ 1000) (hbase : base ≤ w.heap.size) :
    ∃ v' w', (Builtin.append_ #[53, 53] ty #[v, .slice (some ⟨g, 0, none⟩) 1 1]).run Tryd.prog w = .ok v' w' ∧ AppdR w base v (n + 1) (xs ++ [c0, c1, c2, c3, c4]) v' w' := by
  have hI : (Tryd.prog.info? 38).map (fun i => (i.zero, i.size, i.bytes)) = some (some (.agg #[.int .i64 0, .int .i64 0, .int .i64 0, .bool false, .slice none 0 0]), 5, 56) := by kernel_rfl
  obtain ⟨i, hi, h3⟩ := Option.map_eq_some_iff.1 hI
  simp only [Prod.mk.injEq] at h3
  obtain ⟨hz, hz0, hz1⟩ := h3
  have hc := fun k => cell_of_row w g k _ _ _ hg
  obtain ⟨v', w', hr, h2, h3, _, h5⟩ := run_append_own_at (P := Tryd.prog) w base 53 ty 38 i _ 5 56 Tryd.underlying53 hi hz hz0 hz1 rfl (by decide) v n xs hv ⟨g, 0, none⟩ 1 1 [c0, c1, c2, c3, c4] rfl (by
    intro j u hj
    rw [show (⟨g, 0, none⟩ : Addr).add j = ⟨g, j, none⟩ by unfold Addr.add; split <;> simp_all]
    rw [hc j]
    simpa using hj) h1 (by unfold maxLen; omega) (by omega) hbase
  exact ⟨v', w', hr, h2, h3, h5⟩

theorem wp_appR {w : World} {o : Oper} {a : Act} {K : Act → World → Prop} {Q : Exit → Act → World → Prop} (s x : Operand)
    (ho : o.op = .call { callee := .builtin .append, args := #[s, x], argTypes := #[53, 53] })
    (base : Nat) (v : Value) (n : Nat) (xs : List Value) (g : Nat) (c0 c1 c2 c3 c4 : Value) (hs : a.eval s = v) (hx : a.eval x = .slice (some ⟨g, 0, none⟩) 1 1) (hv : w.ownsRow base 38 5 v n xs) (hg : w.heap[g]? = some (.cells #[c0, c1, c2, c3, c4] 38 (0, 0)))
    (h1 : ∀ u ∈ [c0, c1, c2, c3, c4], u.oneCell' = true) (h63 : n ≤ 1000) (hbase : base ≤ w.heap.size)
    (h : ∀ v' w', AppdR w base v (n + 1) (xs ++ [c0, c1, c2, c3, c4]) v' w' → K (a.put o.dst v') w') : o.wp Tryd.prog a w K Q := by
  obtain ⟨v', w', hr, h2⟩ := run_appR w base o.type v n xs g c0 c1 c2 c3 c4 hv hg h1 h63 hbase
  unfold Oper.wp execOp
  simp only [ho, resolve, invoke, builtin, Sem.run_bind, Sem.run_pure, Result.andThen_ok, List.map_toArray, List.map_cons, List.map_nil, hs, hx, hr]
  exact h v' w' h2

theorem wpList_appR {w : World} {ops : Array Oper} {rest : List Oper} {o : Oper} {a : Act} {Q : Exit → Act → World → Prop} (hgd : o.guard = none) (s x : Operand)
    (ho : o.op = .call { callee := .builtin .append, args := #[s, x], argTypes := #[53, 53] })
    (base : Nat) (v : Value) (n : Nat) (xs : List Value) (g : Nat) (c0 c1 c2 c3 c4 : Value) (hs : a.eval s = v) (hx : a.eval x = .slice (some ⟨g, 0, none⟩) 1 1) (hv : w.ownsRow base 38 5 v n xs) (hg : w.heap[g]? = some (.cells #[c0, c1, c2, c3, c4] 38 (0, 0)))
    (h1 : ∀ u ∈ [c0, c1, c2, c3, c4], u.oneCell' = true) (h63 : n ≤ 1000) (hbase : base ≤ w.heap.size)
    (h : ∀ v' w', AppdR w base v (n + 1) (xs ++ [c0, c1, c2, c3, c4]) v' w' → wpList Tryd.prog ops Q rest (a.put o.dst v') w') : wpList Tryd.prog ops Q (o :: rest) a w :=
  wpList_plain hgd fun _ hK => wp_appR s x ho base v n xs g c0 c1 c2 c3 c4 hs hx hv hg h1 h63 hbase fun v' w' h2 => hK _ _ (h v' w' h2)

/-- the cells of acts, in their order. -/
def actCells (l : List Ac) : List Value := l.flatMap fun a => [.int .i64 a.1, .string a.2]
theorem actCells_len : ∀ l : List Ac, (actCells l).length = l.length * 2
  | [] => rfl
  | a :: l => by
    show (_ ++ actCells l).length = _
    rw [List.length_append, actCells_len l, List.length_cons]
    simp
    omega
theorem actCells_at : ∀ (l : List Ac) (j : Nat) (x : Ac), l[j]? = some x → (actCells l)[j * 2]? = some (.int .i64 x.1) ∧ (actCells l)[j * 2 + 1]? = some (.string x.2)
  | [], _, _, h => by simp at h
  | a :: l, 0, x, h => by
    simp at h
    subst h
    exact ⟨rfl, rfl⟩
  | a :: l, j + 1, x, h => by
    have ih := actCells_at l j x (by simpa using h)
    show (([.int .i64 a.1, .string a.2] : List Value) ++ actCells l)[(j + 1) * 2]? = _ ∧ (([.int .i64 a.1, .string a.2] : List Value) ++ actCells l)[(j + 1) * 2 + 1]? = _
    rw [List.getElem?_append_right (by simp; omega), List.getElem?_append_right (by simp; omega)]
    rw [show (j + 1) * 2 - ([.int .i64 a.1, .string a.2] : List Value).length = j * 2 by simp; omega, show (j + 1) * 2 + 1 - ([.int .i64 a.1, .string a.2] : List Value).length = j * 2 + 1 by simp; omega]
    exact ih
theorem actCells_of (l : List Ac) (j : Nat) (u : Value) (h : (actCells l)[j]? = some u) : ∃ i x, l[i]? = some x ∧ ((j = i * 2 ∧ u = .int .i64 x.1) ∨ (j = i * 2 + 1 ∧ u = .string x.2)) := by
  have hj := (List.getElem?_eq_some_iff.1 h).1
  rw [actCells_len] at hj
  obtain ⟨x, hx⟩ : ∃ x, l[j / 2]? = some x := ⟨_, List.getElem?_eq_getElem (by omega)⟩
  obtain ⟨h0, h1⟩ := actCells_at l (j / 2) x hx
  refine ⟨j / 2, x, hx, ?_⟩
  rcases Nat.mod_two_eq_zero_or_one j with hm | hm
  · left
    have hj2 : j / 2 * 2 = j := by omega
    rw [hj2, h] at h0
    exact ⟨by omega, by injection h0⟩
  · right
    have hj2 : j / 2 * 2 + 1 = j := by omega
    rw [hj2, h] at h1
    exact ⟨by omega, by injection h1⟩

theorem run_appA (w : World) (ty : TypeId) (v : Value) (l : List Ac) (hl : Acts w v l) (hn : l.length ≤ 5864062014805) :
    ∃ v' w', (Builtin.append_ #[44, 44] ty #[.slice none 0 0, v]).run Tryd.prog w = .ok v' w' ∧ Acts w' v' l ∧ Below w.heap.size w w' := by
  have hI : (Tryd.prog.info? 30).map (fun i => (i.zero, i.size, i.bytes)) = some (some (.agg #[.int .i64 0, .string ⟨#[]⟩]), 2, 24) := by kernel_rfl
  obtain ⟨i, hi, h3⟩ := Option.map_eq_some_iff.1 hI
  simp only [Prod.mk.injEq] at h3
  obtain ⟨hz, hz0, hz1⟩ := h3
  obtain ⟨a, c, rfl, hlen, hsz, hcs⟩ := hl
  rcases hcs with rfl | ⟨g, off, rfl, hcs⟩
  · refine ⟨.slice none 0 0, w, ?_, ⟨none, 0, rfl, Nat.zero_le _, hsz, .inl rfl⟩, Below.refl _ _⟩
    cases a <;> simp [Builtin.append_, run_underlying Tryd.underlying44, sizeOf, typeInfo, hi, Builtin.lenOf, Builtin.firstCells, loadCells, loadCellsFrom]
  · obtain ⟨v', w', hr, h2, h3, _, h5⟩ := run_append_own_at (P := Tryd.prog) w w.heap.size 44 ty 30 i _ 2 24 Tryd.underlying44 hi hz hz0 hz1 rfl (by decide) (.slice none 0 0) 0 [] (World.ownsRow_nil w w.heap.size _ 2) ⟨g, off, none⟩ l.length c (actCells l) (actCells_len l) (by
      intro j u hj
      obtain ⟨i, x, hx, h⟩ := actCells_of l j u hj
      rw [show (⟨g, off, none⟩ : Addr).add j = ⟨g, off + j, none⟩ by unfold Addr.add; split <;> simp_all]
      rcases h with ⟨rfl, rfl⟩ | ⟨rfl, rfl⟩
      · exact (hcs i x hx).1
      · rw [show off + (i * 2 + 1) = off + i * 2 + 1 by omega]
        exact (hcs i x hx).2) (by
      intro u hu
      obtain ⟨a, _, ha⟩ := List.mem_flatMap.1 hu
      simp at ha
      rcases ha with rfl | rfl <;> rfl) (by omega) (by omega) (Nat.le_refl _)
    rw [Nat.zero_add, List.nil_append] at h2
    refine ⟨v', w', hr, ?_, ⟨h3.os, h3.tape, h3.output, h3.size, fun k hk => h3.block k hk (by simp [Value.ownBlock])⟩⟩
    rcases h2.2 with ⟨rfl, h0⟩ | ⟨g', cap, cur, rfl, hb, hh, hr2⟩
    · have : l = [] := List.eq_nil_of_length_eq_zero h0
      subst this
      exact ⟨none, 0, rfl, Nat.zero_le _, hsz, .inl rfl⟩
    · refine ⟨_, _, rfl, hlen, hsz, .inr ⟨g', 0, rfl, fun j x hj => ?_⟩⟩
      have hcell := h2.cells (g := g') rfl
      obtain ⟨k0, k1⟩ := actCells_at l j x hj
      have e0 := hcell _ _ k0
      have e1 := hcell _ _ k1
      rw [show ∀ k, (⟨g', 0, none⟩ : Addr).add k = ⟨g', 0 + k, none⟩ from fun k => by unfold Addr.add; split <;> simp_all] at e0 e1
      exact ⟨e0, by rw [Nat.add_assoc]; exact e1⟩

theorem wp_appA {w : World} {o : Oper} {a : Act} {K : Act → World → Prop} {Q : Exit → Act → World → Prop} (s x : Operand)
    (ho : o.op = .call { callee := .builtin .append, args := #[s, x], argTypes := #[44, 44] })
    (v : Value) (l : List Ac) (hs : a.eval s = .slice none 0 0) (hx : a.eval x = v) (hl : Acts w v l) (hn : l.length ≤ 5864062014805)
    (h : ∀ v' w', Acts w' v' l → Below w.heap.size w w' → K (a.put o.dst v') w') : o.wp Tryd.prog a w K Q := by
  obtain ⟨v', w', hr, h2, h3⟩ := run_appA w o.type v l hl hn
  unfold Oper.wp execOp
  simp only [ho, resolve, invoke, builtin, Sem.run_bind, Sem.run_pure, Result.andThen_ok, List.map_toArray, List.map_cons, List.map_nil, hs, hx, hr]
  exact h v' w' h2 h3
theorem wpList_appA {w : World} {ops : Array Oper} {rest : List Oper} {o : Oper} {a : Act} {Q : Exit → Act → World → Prop} (hgd : o.guard = none) (s x : Operand)
    (ho : o.op = .call { callee := .builtin .append, args := #[s, x], argTypes := #[44, 44] })
    (v : Value) (l : List Ac) (hs : a.eval s = .slice none 0 0) (hx : a.eval x = v) (hl : Acts w v l) (hn : l.length ≤ 5864062014805)
    (h : ∀ v' w', Acts w' v' l → Below w.heap.size w w' → wpList Tryd.prog ops Q rest (a.put o.dst v') w') : wpList Tryd.prog ops Q (o :: rest) a w :=
  wpList_plain hgd fun _ hK => wp_appA s x ho v l hs hx hl hn fun v' w' h2 h3 => hK _ _ (h v' w' h2 h3)
/-- a beginning of acts. -/
theorem Acts.take {w : World} {p : Option Addr} {c : Nat} {l : List Ac} (h : Acts w (.slice p l.length c) l) (m : Nat) (hm : m ≤ l.length) : Acts w (.slice p m c) (l.take m) := by
  obtain ⟨a, c', he, hlen, hsz, hcs⟩ := h
  injection he with e1 e2 e3
  subst e1 e3
  refine ⟨p, c, by rw [List.length_take, Nat.min_eq_left hm], by rw [List.length_take]; omega, fun x hx => hsz x (List.mem_of_mem_take hx), ?_⟩
  rcases hcs with rfl | ⟨g, off, rfl, hcs⟩
  · left
    simp
  · right
    refine ⟨g, off, rfl, fun j x hj => hcs j x ?_⟩
    rw [List.getElem?_take] at hj
    split at hj
    · exact hj
    · cases hj
end Go.Proofs.YtefohnbmifblkaaDoor

/-
  The walk of Run.
-/
namespace Go.Proofs.YtefohnbmifblkaaDoor
open Go.RowKit

def repl (d : DS) : List Ac → List Rp
  | [] => []
  | a :: l => (doDS d a.1 a.2.data.toList).2 :: repl (act d a) l
theorem repl_snoc : ∀ (l : List Ac) (d : DS) (a : Ac), repl d (l ++ [a]) = repl d l ++ [(doDS (runA d l) a.1 a.2.data.toList).2]
  | [], _, _ => rfl
  | x :: l, d, a => by
    show _ :: repl (act d x) (l ++ [a]) = _
    rw [repl_snoc l (act d x) a]
    rfl
theorem repl_succ (d : DS) (l : List Ac) (k : Nat) (a : Ac) (h : l[k]? = some a) : repl d (l.take (k + 1)) = repl d (l.take k) ++ [(doDS (runA d (l.take k)) a.1 a.2.data.toList).2] := by
  obtain ⟨hk, rfl⟩ := List.getElem?_eq_some_iff.1 h
  rw [← repl_snoc, List.take_append_getElem hk]
theorem repl_len : ∀ (l : List Ac) (d : DS), (repl d l).length = l.length
  | [], _ => rfl
  | a :: l, d => by
    show (repl (act d a) l).length + 1 = _
    rw [repl_len l]
    rfl
theorem repl_take : ∀ (l : List Ac) (d : DS) (k : Nat), repl d (l.take k) = (repl d l).take k
  | [], _, k => by simp [repl]
  | a :: l, d, 0 => rfl
  | a :: l, d, k + 1 => by
    show _ :: repl (act d a) (l.take k) = _ :: (repl (act d a) l).take k
    rw [repl_take l]

/-- the cells of replies, in their order. -/
def repCells : List Rp → List Value → List Value
  | r :: rs, u :: us => [.int .i64 r.code, .int .i64 r.vd.1, .int .i64 r.vd.2.1, .bool r.vd.2.2, u] ++ repCells rs us
  | _, _ => []
theorem repCells_snoc : ∀ (rs : List Rp) (us : List Value) (r : Rp) (u : Value), us.length = rs.length → repCells (rs ++ [r]) (us ++ [u]) = repCells rs us ++ [.int .i64 r.code, .int .i64 r.vd.1, .int .i64 r.vd.2.1, .bool r.vd.2.2, u]
  | [], [], _, _, _ => rfl
  | [], _ :: _, _, _, h => by simp at h
  | _ :: _, [], _, _, h => by simp at h
  | a :: rs, b :: us, r, u, h => by
    show _ ++ repCells (rs ++ [r]) (us ++ [u]) = (_ ++ repCells rs us) ++ _
    rw [repCells_snoc rs us r u (by simpa using h), List.append_assoc]
theorem repCells_at : ∀ (rs : List Rp) (us : List Value) (j : Nat) (r : Rp) (u : Value), rs[j]? = some r → us[j]? = some u → ∀ i, i < 5 → (repCells rs us)[j * 5 + i]? = ([.int .i64 r.code, .int .i64 r.vd.1, .int .i64 r.vd.2.1, .bool r.vd.2.2, u] : List Value)[i]?
  | [], _, _, _, _, h, _, _, _ => by simp at h
  | _ :: _, [], _, _, _, _, h, _, _ => by simp at h
  | a :: rs, b :: us, 0, r, u, h1, h2, i, hi => by
    simp at h1 h2
    subst h1 h2
    show (_ ++ repCells rs us)[0 * 5 + i]? = _
    rw [Nat.zero_mul, Nat.zero_add, List.getElem?_append_left (by simpa using hi)]
  | a :: rs, b :: us, j + 1, r, u, h1, h2, i, hi => by
    have ih := repCells_at rs us j r u (by simpa using h1) (by simpa using h2) i hi
    show (([.int .i64 a.code, .int .i64 a.vd.1, .int .i64 a.vd.2.1, .bool a.vd.2.2, b] : List Value) ++ repCells rs us)[(j + 1) * 5 + i]? = _
    rw [List.getElem?_append_right (by simp; omega), ← ih]
    congr 1
    simp
    omega

/-- replies in memory: a row of the call's own, each reply's numbers in a row too. -/
def Reps (base : Nat) (w : World) (v : Value) (rs : List Rp) : Prop :=
  ∃ us : List Value, us.length = rs.length ∧ w.ownsRow base 38 5 v rs.length (repCells rs us) ∧ ∀ (j : Nat) (r : Rp) (u : Value), rs[j]? = some r → us[j]? = some u → w.ownsRow base 3 1 u r.out.length (ints r.out)
theorem Reps.nil (base : Nat) (w : World) : Reps base w (.slice none 0 0) [] := ⟨[], rfl, World.ownsRow_nil _ _ _ _, fun j r u h => by simp at h⟩
theorem own_stayT {w w' : World} {base n k : Nat} {e : TypeId} {v : Value} {xs : List Value} (h1 : e ≠ 5) (h2 : e ≠ 75) (h : w.ownsRow base e k v n xs) (hs : Stay w w') : w'.ownsRow base e k v n xs := by
  refine ⟨h.1, ?_⟩
  rcases h.2 with h0 | ⟨g, cap, cur, hg, hb, hh, hr⟩
  · exact .inl h0
  · exact .inr ⟨g, cap, cur, hg, hb, hs _ _ _ _ h1 h2 hh, hr⟩
theorem Reps.stay {base : Nat} {w w' : World} {v : Value} {rs : List Rp} (h : Reps base w v rs) (hs : Stay w w') : Reps base w' v rs := by
  obtain ⟨us, h1, h2, h3⟩ := h
  exact ⟨us, h1, own_stayT (by decide) (by decide) h2 hs, fun j r u hj hu => own_stay (h3 j r u hj hu) hs⟩
theorem Reps.form {base : Nat} {w : World} {v : Value} {rs : List Rp} (h : Reps base w v rs) : ∃ p c, v = .slice p rs.length c := by
  obtain ⟨us, h1, h2, h3⟩ := h
  exact own_form h2
/-- what an append onto replies leaves of the rest. -/
theorem AppdR.keep {w w' : World} {base n k : Nat} {v v' : Value} {xs ys : List Value} (h : AppdR w base v n xs v' w') (hv : w.ownsRow base 38 5 v k ys) :
    (∃ B cs, base ≤ B ∧ w.heap[B]? = some (.cells cs 38 (0, 0)) ∧ Keep w w' B none) ∨ Below w.heap.size w w' := by
  rcases hv.2 with ⟨rfl, _⟩ | ⟨g, cap, cur, rfl, hb, hh, _⟩
  · exact .inr ⟨h.grown.os, h.grown.tape, h.grown.output, h.grown.size, fun i hi => h.grown.block i hi (by simp [Value.ownBlock])⟩
  · exact .inl ⟨g, cur, hb, hh, ⟨h.grown.os, h.grown.tape, h.grown.output, h.grown.size, fun i hi h1 _ => h.grown.block i hi (by simpa [Value.ownBlock] using h1)⟩⟩
theorem own_grown {w w' : World} {B base n : Nat} {cs : Array Value} {v : Value} {xs : List Value} (h : w.ownsRow base 3 1 v n xs) (hE : w.heap[B]? = some (.cells cs 38 (0, 0))) (k : Keep w w' B none) : w'.ownsRow base 3 1 v n xs := by
  refine ⟨h.1, ?_⟩
  rcases h.2 with h0 | ⟨g, cap, cur, hg, hb, hh, hr⟩
  · exact .inl h0
  · refine .inr ⟨g, cap, cur, hg, hb, (k.block g (Array.getElem?_eq_some_iff.1 hh).1 ?_ (fun e => by cases e)).trans hh, hr⟩
    rintro rfl
    rw [hE] at hh
    injection hh with hh
    injection hh with _ e _
    exact absurd e (by decide)
theorem Reps.app {w w1 w2 : World} {b : Nat} {d : DS} {v v' : Value} {rs : List Rp} {r : Rp} {u : Value} {us : List Value} (hat : At w b d w1) (hus : us.length = rs.length) (hrow : w1.ownsRow w.heap.size 38 5 v rs.length (repCells rs us))
    (hi : ∀ (j : Nat) (r : Rp) (u : Value), rs[j]? = some r → us[j]? = some u → w1.ownsRow w.heap.size 3 1 u r.out.length (ints r.out)) (hu : w1.ownsRow w.heap.size 3 1 u r.out.length (ints r.out))
    (h : AppdR w1 w.heap.size v (rs.length + 1) (repCells rs us ++ [.int .i64 r.code, .int .i64 r.vd.1, .int .i64 r.vd.2.1, .bool r.vd.2.2, u]) v' w2) : At w b d w2 ∧ Reps w.heap.size w2 v' (rs ++ [r]) := by
  have key : At w b d w2 ∧ ∀ (n : Nat) (u : Value) (xs : List Value), w1.ownsRow w.heap.size 3 1 u n xs → w2.ownsRow w.heap.size 3 1 u n xs := by
    rcases h.keep hrow with ⟨B, cs, hB, hcs, hk⟩ | hb
    · exact ⟨hat.only hcs (by decide) (by decide) hB hk, fun n u xs ho => own_grown ho hcs hk⟩
    · exact ⟨hat.next hb, fun n u xs ho => own_stay ho (Stay.below hb)⟩
  refine ⟨key.1, us ++ [u], by simp [hus], ?_, ?_⟩
  · rw [repCells_snoc rs us r u hus, List.length_append]
    exact h.own
  · intro j r' u' hr' hu'
    by_cases hj : j < rs.length
    · rw [List.getElem?_append_left hj] at hr'
      rw [List.getElem?_append_left (by omega)] at hu'
      exact key.2 _ _ _ (hi j r' u' hr' hu')
    · rw [List.getElem?_append_right (by omega)] at hr'
      rw [List.getElem?_append_right (by omega), hus] at hu'
      obtain ⟨h0, h1⟩ := List.getElem?_eq_some_iff.1 hr'
      have hj2 : j - rs.length = 0 := by simpa using h0
      rw [hj2] at hr' hu'
      simp at hr' hu'
      subst hr' hu'
      exact key.2 _ _ _ hu

set_option maxRecDepth 100000 in
set_option maxHeartbeats 4000000 in
theorem run_long (hint : ByteArray) (v : Value) (l : List Ac) (w : World) (hl : Acts w v l) (h : 300 < l.length) :
    Calls Tryd.prog 33 #[.string hint, v] w fun e w' => e = .returned (.tuple #[.slice none 0 0, .int .i64 5]) ∧ w = w' := by
  obtain ⟨p, c, rfl, hlen, _⟩ := hl
  unfold maxLen at hlen
  have h2 : (300 : Int) < (l.length : Int) := by omega
  go_enter Tryd.func33, Tryd.ntmps33
  go_wp2_with fail
  refine bodyPost_ret (by simp [results, Tryd.results33, go_sem]; rfl) rfl ?_
  exact ⟨rfl, rfl⟩

set_option maxRecDepth 100000 in
set_option maxHeartbeats 4000000 in
theorem run_any (hint : ByteArray) (v : Value) (l : List Ac) (w : World) (hh : hint.size ≤ maxLen) (hl : Acts w v l) (hg : Gl w) (h300 : l.length ≤ 300) :
    Calls Tryd.prog 33 #[.string hint, v] w fun e w' => (∃ v', e = .returned (.tuple #[v', .int .i64 0]) ∧ Reps w.heap.size w' v' (repl (newDS (Pl.find hint.data.toList)) l)) ∧ Below w.heap.size w w' := by
  have HG := Lib.hid hg
  have HH := Lib.hid hh
  obtain ⟨p, c, rfl, hlen, hsz, hcs⟩ := hl
  unfold maxLen at hlen
  clear hg hh
  have h3002 : (l.length : Int) ≤ 300 := by omega
  obtain ⟨d0, hd0⟩ : ∃ x, newDS (Pl.find hint.data.toList) = x := ⟨_, rfl⟩
  have HD0 := Lib.hid hd0
  rw [hd0]
  clear hd0
  go_enter Tryd.func33, Tryd.ntmps33
  go_wp2_with fail
  refine (new_at hint w w (Below.refl _ _) HH.out).mono ?_
  rintro e1 w1 ⟨⟨b, rfl, _, hA1⟩, _⟩
  rw [show newDS (Pl.find hint.data.toList) = d0 from HD0.out] at hA1
  have HA1 := Lib.hid hA1
  clear hA1
  go_wp2_with fail
  go_loopw [7, 17] (fun v i wr => ∃ k : Nat, k ≤ l.length ∧ i = .int .i64 k ∧ Aside (At w b (runA d0 (l.take k)) wr) ∧ Aside (Reps w.heap.size wr v (repl d0 (l.take k)))) (fun _ i _ => l.length - (intOf i).toNat)
  case atStart => exact ⟨0, by omega, rfl, HA1.out, Reps.nil _ _⟩
  case round =>
    obtain ⟨k, hk, rfl, hAt, hRp⟩ := hrel
    by_cases hlt : k < l.length
    · have hlt2 : (k : Int) < (l.length : Int) := by omega
      obtain ⟨x, hx⟩ : ∃ x, l[k]? = some x := ⟨_, List.getElem?_eq_getElem hlt⟩
      have hxs : x.2.size ≤ maxLen := hsz x (List.mem_of_getElem? hx)
      rcases hcs with rfl | ⟨g', off, rfl, hcs⟩
      · simp at hlt
      have hgl := lt_of_cell (hcs k x hx).1
      have hbw := hAt.out.below
      have c1 : wr.cell? ⟨g', off + k * 2, none⟩ = some (.int .i64 x.1) := (hbw.cell (p := ⟨g', _, none⟩) hgl).trans (hcs k x hx).1
      have c2 : wr.cell? ⟨g', off + k * 2 + 1, none⟩ = some (.string x.2) := (hbw.cell (p := ⟨g', _, none⟩) hgl).trans (hcs k x hx).2
      have HX := Lib.hid hx
      have HXS := Lib.hid hxs
      have HCS := Lib.hid hcs
      have HSZ := Lib.hid hsz
      clear hx hxs hcs hsz hbw
      go_wp2_with fail
      have hbx : Below wr.heap.size wr (wr.alloc (.cells #[.int .i64 x.1, .string x.2] 30)) := (Below.refl _ _).alloc (Nat.le_refl _) _
      have hA3 := hAt.out.next hbx
      have hR3 := hRp.out.stay (Stay.below hbx)
      clear hbx
      generalize World.alloc _ _ = w3 at hA3 hR3 ⊢
      have HA3 := Lib.hid hA3
      have HR3 := Lib.hid hR3
      clear hA3 hR3 hAt hRp c1 c2
      refine (do_at w w3 b (runA d0 (l.take k)) x.1 x.2 HA3.out HG.out HXS.out).mono ?_
      rintro e4 w4 ⟨⟨u, rfl, ho4⟩, hA4, hSt4, hz4⟩
      have ho4' := World.ownsRow.mono ho4 HA3.out.below.size
      have hR4 := HR3.out.stay hSt4
      obtain ⟨r, hr⟩ : ∃ r, (doDS (runA d0 (l.take k)) x.1 x.2.data.toList).2 = r := ⟨_, rfl⟩
      rw [hr] at ho4' ⊢
      have HR0 := Lib.hid hr
      obtain ⟨p4, n4, rfl⟩ := own_form ho4'
      obtain ⟨us, hus, hrow, hints⟩ := hR4
      obtain ⟨p5, n5, rfl⟩ := own_form hrow
      have hlen2 : (repl d0 (l.take k)).length = k := by
        rw [repl_len, List.length_take]
        omega
      have hsize := hA4.below.size
      have hbx : Below w4.heap.size w4 (w4.alloc (.cells #[.int .i64 r.code, .int .i64 r.vd.1, .int .i64 r.vd.2.1, .bool r.vd.2.2, .slice p4 r.out.length n4] 38)) := (Below.refl _ _).alloc (Nat.le_refl _) _
      have HA5 := Lib.hid (hA4.next hbx)
      have HRow5 := Lib.hid (own_stayT (by decide) (by decide) hrow (Stay.below hbx))
      have HI5 := Lib.hid (fun (j : Nat) (r' : Rp) (u' : Value) h1 h2 => own_stay (hints j r' u' h1 h2) (Stay.below hbx))
      have HU5 := Lib.hid (own_stay ho4' (Stay.below hbx))
      have HUs := Lib.hid hus
      have hg5 := heap_alloc_new w4 (.cells #[.int .i64 r.code, .int .i64 r.vd.1, .int .i64 r.vd.2.1, .bool r.vd.2.2, .slice p4 r.out.length n4] 38)
      have HG5 := Lib.hid hg5
      have hs5 : (w4.alloc (.cells #[.int .i64 r.code, .int .i64 r.vd.1, .int .i64 r.vd.2.1, .bool r.vd.2.2, .slice p4 r.out.length n4] 38)).heap.size = w4.heap.size + 1 := by simp
      have HL2 := Lib.hid hlen2
      clear ho4 ho4' hA4 hSt4 hz4 hr hrow hints hus hbx hg5 hs5 hlen2
      simp only [rpV]
      go_wp2_with (first
        | (at_builtin
           with_reducible refine gate_append ?_
           refine wpList_appR (by rfl) _ _ (by rfl) w.heap.size _ _ _ w4.heap.size (.int .i64 r.code) (.int .i64 r.vd.1) (.int .i64 r.vd.2.1) (.bool r.vd.2.2) (.slice p4 r.out.length n4) (by rfl) (by rfl) HRow5.out HG5.out (by simp [Value.oneCell']) (by rw [HL2.out]; omega) (by simp; omega) ?_
           intro v6 w6 HA6
           have hap := Reps.app HA5.out HUs.out HRow5.out HI5.out HU5.out HA6
           have HA7 := Lib.hid hap.1
           have HR7 := Lib.hid hap.2
           clear HA6 hap))
      go_roundw
      case rel =>
        refine ⟨k + 1, by omega, by go_num, ?_, ?_⟩
        · have h := HA7.out
          rw [show (doDS (runA d0 (l.take k)) x.1 x.2.data.toList).1 = act (runA d0 (l.take k)) x from rfl, ← runA_succ d0 l k x HX.out] at h
          exact h
        · have h := HR7.out
          rw [← HR0.out, ← repl_succ d0 l k x HX.out] at h
          exact h
      case measure => simp [intOf]; omega
    · have hk2 : k = l.length := by omega
      subst hk2
      have hRp2 := hRp.out
      have hAt2 := hAt.out
      rw [List.take_length] at hRp2
      have HR := Lib.hid hRp2
      have HB := Lib.hid hAt2.below
      clear hRp hAt hRp2 hAt2
      go_wp2_with fail
      refine bodyPost_ret (by simp [results, Tryd.results33, go_sem]; rfl) rfl ?_
      exact ⟨⟨_, rfl, HR.out⟩, HB.out⟩
end Go.Proofs.YtefohnbmifblkaaDoor

/-
  Replies in memory, one by one.
-/
namespace Go.Proofs.YtefohnbmifblkaaDoor
open Go.RowKit

theorem Reps.at_ {base : Nat} {w : World} {p : Option Addr} {n c : Nat} {rs : List Rp} (h : Reps base w (.slice p n c) rs) (j : Nat) (r : Rp) (hj : rs[j]? = some r) :
    ∃ (g : Nat) (u : Value), p = some ⟨g, 0, none⟩ ∧ w.cell? ⟨g, j * 5, none⟩ = some (.int .i64 r.code) ∧ w.cell? ⟨g, j * 5 + 1, none⟩ = some (.int .i64 r.vd.1) ∧ w.cell? ⟨g, j * 5 + 2, none⟩ = some (.int .i64 r.vd.2.1) ∧ w.cell? ⟨g, j * 5 + 3, none⟩ = some (.bool r.vd.2.2) ∧ w.cell? ⟨g, j * 5 + 4, none⟩ = some u ∧ Ints w u r.out := by
  obtain ⟨us, hus, hrow, hi⟩ := h
  have hlt := (List.getElem?_eq_some_iff.1 hj).1
  obtain ⟨u, hu⟩ : ∃ u, us[j]? = some u := ⟨_, List.getElem?_eq_getElem (by omega)⟩
  have hat := repCells_at rs us j r u hj hu
  have hint := own_ints (hi j r u hj hu)
  rcases hrow.2 with ⟨_, h0⟩ | ⟨g, cap, cur, he, _⟩
  · omega
  · injection he with e1 _ _
    subst e1
    have hc := fun i x hx => hrow.cells (g := g) rfl i x hx
    have ea : ∀ k, (⟨g, 0, none⟩ : Addr).add k = ⟨g, k, none⟩ := fun k => by unfold Addr.add; split <;> simp_all
    refine ⟨g, u, rfl, ?_, ?_, ?_, ?_, ?_, hint⟩
    · rw [← ea]
      exact hc _ _ (by rw [show j * 5 = j * 5 + 0 from rfl, hat 0 (by omega)]; rfl)
    · rw [← ea]
      exact hc _ _ (by rw [hat 1 (by omega)]; rfl)
    · rw [← ea]
      exact hc _ _ (by rw [hat 2 (by omega)]; rfl)
    · rw [← ea]
      exact hc _ _ (by rw [hat 3 (by omega)]; rfl)
    · rw [← ea]
      exact hc _ _ (by rw [hat 4 (by omega)]; rfl)

theorem repl_out : ∀ (l : List Ac) (d : DS), OkD d → ∀ r ∈ repl d l, r.out.length ≤ 24002
  | [], _, _, r, h => by cases h
  | a :: l, d, hd, r, h => by
    rcases List.mem_cons.1 h with rfl | h
    · exact out_len d hd _ _
    · exact repl_out l (act d a) (hd.doDS _ _) r h
end Go.Proofs.YtefohnbmifblkaaDoor
