/-
  The walk of the references' TellOf; Tell and TellOf at what is no encoding.
-/
import Derived.Test.YtefohnbmifblkaaDoorRfX
import Derived.Test.YtefohnbmifblkaaDoorDoG
import Derived.Test.YtefohnbmifblkaaDoorRfA
import Derived.Test.YtefohnbmifblkaaDoorRfY
import Derived.Deep.RegionWith
namespace Go.Proofs.YtefohnbmifblkaaDoor
open Go.RowKit

set_option maxRecDepth 100000 in
set_option maxHeartbeats 4000000 in
theorem tellOf_any (e : Int) (bs : ByteArray) (w : World) (he : 1 ≤ e ∧ e ≤ 6) (hlen : bs.size ≤ 4000) :
    Calls Tryd.prog 39 #[.int .i64 e, .string bs] w fun x w' => AnsT w (tell e bs.data.toList) x w' := by
  have hml := mark_len bs.data.toList
  have hs0 : bs.data.toList.length = bs.size := by simp
  have hmr := mark_range bs.data.toList
  obtain ⟨m, n, hm⟩ : ∃ m n, Pl.mark bs.data.toList = (m, n) := ⟨_, _, rfl⟩
  rw [hm, hs0] at hml
  rw [hm] at hmr
  dsimp only at hmr
  obtain ⟨hn0, hn1⟩ := hml
  obtain ⟨k, rfl⟩ : ∃ k : Nat, n = (k : Int) := ⟨n.toNat, by omega⟩
  have hk : k ≤ bs.size := by simpa using hn1
  have hk2 : (k : Int) ≤ (bs.size : Int) := by omega
  have hk0 : (0 : Int) ≤ (k : Int) := by omega
  have HM : Hid (∀ W : World, Calls Tryd.prog 19 #[.string bs] W fun x w' => x = .returned (.tuple #[.int .i64 m, .int .i64 (k : Int)]) ∧ W = w') := Lib.hid fun W => by
    have := markOf_any bs W
    rwa [hm] at this
  have HW : Hid (∀ (b2 : ByteArray) (W : World), b2.size ≤ 4000 → Calls Tryd.prog 56 #[.int .i64 e, .string b2] W fun x w' => AnsW W (Pl.dWhole e b2.data.toList) x w') := Lib.hid fun b2 W h => wholeOf_any e b2 W he h
  unfold tell
  rw [hm]
  dsimp only
  by_cases hme : m = e
  · subst hme
    have hmp : 0 < m := by omega
    rw [if_pos rfl]
    clear hm hn0 hn1 hs0 he hmr
    go_enter Tryd.func39, Tryd.ntmps39
    go_wp2_with fail
    refine (HM.out _).mono ?_
    rintro e1 w1 ⟨rfl, hd1⟩
    subst hd1
    go_wp2_with fail
    refine (HW.out _ _ (by rw [ByteArray.size_extract]; omega)).mono ?_
    rintro e2 w2 ⟨⟨v, rfl, ho⟩, hb⟩
    have HO := Lib.hid ho
    have HB := Lib.hid hb
    clear ho hb
    go_wp2_with fail
    go_ret
    have hO := HO.out
    rw [extract_drop] at hO
    exact ⟨⟨v, rfl, hO⟩, HB.out⟩
  · rw [if_neg hme]
    have hmb : (m == e) = false := beq_eq_false_iff_ne.2 hme
    rcases hmr with hm0 | ⟨hm1, hm2⟩
    · subst hm0
      clear hm hn0 hn1 hs0 he
      go_enter Tryd.func39, Tryd.ntmps39
      go_wp2_with fail
      refine (HM.out _).mono ?_
      rintro e1 w1 ⟨rfl, hd1⟩
      subst hd1
      go_wp2_with fail
      refine (HW.out _ _ hlen).mono ?_
      rintro e2 w2 ⟨⟨v, rfl, ho⟩, hb⟩
      have HO := Lib.hid ho
      have HB := Lib.hid hb
      clear ho hb
      go_wp2_with fail
      go_ret
      exact ⟨⟨v, rfl, HO.out⟩, HB.out⟩
    · have hmp : 0 < m := by omega
      clear hm hn0 hn1 hs0 he
      go_enter Tryd.func39, Tryd.ntmps39
      go_wp2_with fail
      refine (HM.out _).mono ?_
      rintro e1 w1 ⟨rfl, hd1⟩
      subst hd1
      go_wp2_with fail
      refine (HW.out _ _ hlen).mono ?_
      rintro e2 w2 ⟨⟨v, rfl, ho⟩, hb⟩
      have HO := Lib.hid ho
      have HB := Lib.hid hb
      clear ho hb
      go_wp2_with fail
      go_ret
      exact ⟨⟨v, rfl, HO.out⟩, HB.out⟩

set_option maxRecDepth 100000 in
set_option maxHeartbeats 4000000 in
theorem wholeOf_none (e : Int) (s : ByteArray) (w : World) (he : e < 1 ∨ 6 < e) :
    Calls Tryd.prog 56 #[.int .i64 e, .string s] w fun x w' => x = .returned (.tuple #[.slice none 0 0, .int .i64 2]) ∧ w = w' := by
  rcases he with he | he
  all_goals
    go_enter Tryd.func56, Tryd.ntmps56
    go_wp2_with fail
    refine bodyPost_ret (by simp [results, Tryd.results56, go_sem]; rfl) rfl ?_
    exact ⟨rfl, rfl⟩

set_option maxRecDepth 100000 in
set_option maxHeartbeats 4000000 in
theorem tellOf_none (e : Int) (bs : ByteArray) (w : World) (he : e < 1 ∨ 6 < e) :
    Calls Tryd.prog 39 #[.int .i64 e, .string bs] w fun x w' => x = .returned (.slice none 0 0) ∧ w = w' := by
  have hmr := mark_range bs.data.toList
  obtain ⟨m, n, hm⟩ : ∃ m n, Pl.mark bs.data.toList = (m, n) := ⟨_, _, rfl⟩
  rw [hm] at hmr
  dsimp only at hmr
  have HM : Hid (∀ W : World, Calls Tryd.prog 19 #[.string bs] W fun x w' => x = .returned (.tuple #[.int .i64 m, .int .i64 n]) ∧ W = w') := Lib.hid fun W => by
    have := markOf_any bs W
    rwa [hm] at this
  have HE := Lib.hid he
  clear hm
  rcases hmr with hm0 | ⟨hm1, hm2⟩
  · subst hm0
    clear he
    go_enter Tryd.func39, Tryd.ntmps39
    go_wp2_with fail
    refine (HM.out _).mono ?_
    rintro e1 w1 ⟨rfl, hd1⟩
    subst hd1
    go_wp2_with fail
    refine (wholeOf_none e bs _ HE.out).mono ?_
    rintro e2 w2 ⟨rfl, hd2⟩
    subst hd2
    go_wp2_with fail
    go_ret
    exact ⟨rfl, rfl⟩
  · have hmp : 0 < m := by omega
    have hmb : (m == e) = false := by rw [beq_eq_false_iff_ne]; omega
    clear he
    go_enter Tryd.func39, Tryd.ntmps39
    go_wp2_with fail
    refine (HM.out _).mono ?_
    rintro e1 w1 ⟨rfl, hd1⟩
    subst hd1
    go_wp2_with fail
    refine (wholeOf_none e bs _ HE.out).mono ?_
    rintro e2 w2 ⟨rfl, hd2⟩
    subst hd2
    go_wp2_with fail
    go_ret
    exact ⟨rfl, rfl⟩

set_option maxRecDepth 100000 in
set_option maxHeartbeats 4000000 in
theorem feed_none (e : Int) (a : Array Value) (n c f t h m : Int) (k bs : ByteArray) (w : World) (ha : a = #[.int .i64 n, .int .i64 c, .int .i64 f, .int .i64 t, .string k, .int .i64 h, .int .i64 m]) (he : e < 1 ∨ 6 < e) :
    Calls Tryd.prog 70 #[.int .i64 e, .agg a, .string bs] w fun x w' => x = .returned (.tuple #[.agg a, .slice none 0 0, .int .i64 2]) ∧ Below w.heap.size w w' := by
  subst ha
  rcases he with he | he
  all_goals
    go_enter Tryd.func70, Tryd.ntmps70
    go_wp2_with fail
    refine bodyPost_ret (v := .tuple #[.agg #[.int .i64 n, .int .i64 c, .int .i64 f, .int .i64 t, .string k, .int .i64 h, .int .i64 m], .slice none 0 0, .int .i64 2]) (by simp [results, Tryd.results70, go_sem]) rfl ⟨rfl, ?_⟩
    repeat (first | exact Below.refl _ _ | refine Below.alloc ?_ (by simp) _ | refine Below.setCell ?_ (by simp) _)

set_option maxRecDepth 100000 in
set_option maxHeartbeats 4000000 in
theorem whole_none (e : Int) (bs : ByteArray) (w : World) (he : e < 1 ∨ 6 < e) :
    Calls Tryd.prog 55 #[.int .i64 e, .string bs] w fun x w' => x = .returned (.tuple #[.slice none 0 0, .int .i64 2]) ∧ Below w.heap.size w w' := by
  have HF : Hid (∀ (b2 : ByteArray) (W : World), Calls Tryd.prog 70 #[.int .i64 e, .agg #[.int .i64 0, .int .i64 0, .int .i64 0, .int .i64 0, .string ⟨#[]⟩, .int .i64 0, .int .i64 0], .string b2] W fun x w' => x = .returned (.tuple #[.agg #[.int .i64 0, .int .i64 0, .int .i64 0, .int .i64 0, .string ⟨#[]⟩, .int .i64 0, .int .i64 0], .slice none 0 0, .int .i64 2]) ∧ Below W.heap.size W w') := Lib.hid fun b2 W => feed_none e _ 0 0 0 0 0 0 ⟨#[]⟩ b2 W rfl he
  clear he
  go_enter Tryd.func55, Tryd.ntmps55
  go_wp2_with fail
  refine (HF.out _ _).mono ?_
  rintro e1 w1 ⟨rfl, hb1⟩
  have HB1 := Lib.hid hb1
  have hz := hb1.size
  clear hb1
  go_wp2_with fail
  refine bodyPost_ret (by simp [results, Tryd.results55, go_sem]) rfl ⟨rfl, ?_⟩
  repeat (first | exact HB1.out | refine Below.alloc ?_ (by first | omega | (simp <;> omega)) _ | refine Below.setCell ?_ (by first | omega | (simp <;> omega)) _)

set_option maxRecDepth 100000 in
set_option maxHeartbeats 4000000 in
theorem tell_none (e : Int) (bs : ByteArray) (w : World) (he : e < 1 ∨ 6 < e) (hg : Gl w) :
    Calls Tryd.prog 38 #[.int .i64 e, .string bs] w fun x w' => x = .returned (.slice none 0 0) ∧ Below w.heap.size w w' := by
  have hml := mark_len bs.data.toList
  have hs0 : bs.data.toList.length = bs.size := by simp
  obtain ⟨m, n, hm⟩ : ∃ m n, Pl.mark bs.data.toList = (m, n) := ⟨_, _, rfl⟩
  rw [hm, hs0] at hml
  obtain ⟨hn0, hn1⟩ := hml
  obtain ⟨k, rfl⟩ : ∃ k : Nat, n = (k : Int) := ⟨n.toNat, by omega⟩
  have hk : k ≤ bs.size := by simpa using hn1
  have hk2 : (k : Int) ≤ (bs.size : Int) := by omega
  have hk0 : (0 : Int) ≤ (k : Int) := by omega
  have HM : Hid (∀ W : World, Gl W → Calls Tryd.prog 17 #[.string bs] W fun x w' => x = .returned (.tuple #[.int .i64 m, .int .i64 (k : Int)]) ∧ Drew W w') := Lib.hid fun W h => by
    have := mark_any bs W h
    rwa [hm] at this
  have HW : Hid (∀ (b2 : ByteArray) (W : World), Calls Tryd.prog 55 #[.int .i64 e, .string b2] W fun x w' => x = .returned (.tuple #[.slice none 0 0, .int .i64 2]) ∧ Below W.heap.size W w') := Lib.hid fun b2 W => whole_none e b2 W he
  have HG := Lib.hid hg
  by_cases hme : m = e
  · subst hme
    clear hm hg hn0 hn1 hs0 he
    go_enter Tryd.func38, Tryd.ntmps38
    go_wp2_with fail
    refine (HM.out _ HG.out).mono ?_
    rintro e1 w1 ⟨rfl, hd1⟩
    go_wp2_with fail
    refine (HW.out _ _).mono ?_
    rintro e2 w2 ⟨rfl, hb⟩
    go_wp2_with fail
    go_ret
    exact ⟨rfl, bthen hd1.below hb⟩
  · have hmb : (m == e) = false := beq_eq_false_iff_ne.2 hme
    clear hm hg hn0 hn1 hs0 he
    go_enter Tryd.func38, Tryd.ntmps38
    go_wp2_with fail
    refine (HM.out _ HG.out).mono ?_
    rintro e1 w1 ⟨rfl, hd1⟩
    go_wp2_with fail
    refine (HW.out _ _).mono ?_
    rintro e2 w2 ⟨rfl, hb⟩
    go_wp2_with fail
    go_ret
    exact ⟨rfl, bthen hd1.below hb⟩
end Go.Proofs.YtefohnbmifblkaaDoor

/-
  The references' detector in memory; the walk of its verdict: it says what the program's says.
-/
namespace Go.Proofs.YtefohnbmifblkaaDoor
open Go.RowKit
attribute [local go_sem ↓] Go.wp_at_zero Go.wp_at_succ

/-- block c is a detector of the references', as d says. -/
def RDet (w : World) (c : Nat) (d : DS) : Prop := w.heap[c]? = some (.cells #[.int .i64 d.hint, .string ⟨d.bs.toArray⟩, .bool d.ended, .int .i64 d.acts] 48 (0, 0))
theorem RDet.lt {w : World} {c : Nat} {d : DS} (h : RDet w c d) : c < w.heap.size := (Array.getElem?_eq_some_iff.1 h).1
theorem RDet.alloc {w : World} {c : Nat} {d : DS} (h : RDet w c d) (x : Obj) : RDet (w.alloc x) c d := (Go.Deep.blk_alloc_lt w x c h.lt).trans h
theorem RDet.below {w w' : World} {c : Nat} {d : DS} (h : RDet w c d) (hb : Below w.heap.size w w') : RDet w' c d := (hb.block c h.lt).trans h
theorem RDet.far {w : World} {c : Nat} {d : DS} (h : RDet w c d) {p : Addr} (hp : p.block ≠ c) (x : Value) : RDet (w.setCell p x) c d := (Go.Deep.blk_setCell_other w p x c (Ne.symm hp)).trans h
theorem RDet.stay {w w' : World} {c : Nat} {d : DS} (h : RDet w c d) (hs : Stay w w') : RDet w' c d := hs _ _ _ _ (by decide) (by decide) h
theorem RDet.tick {w : World} {c : Nat} {d : DS} (h : RDet w c d) : RDet (w.setCell ⟨c, 3, none⟩ (.int .i64 (d.acts + 1))) c (Go.Proofs.YtefohnbmifblkaaDoor.tick d) := row_setCell h _
theorem RDet.fin {w : World} {c : Nat} {d : DS} (h : RDet w c d) : RDet ((w.setCell ⟨c, 3, none⟩ (.int .i64 (d.acts + 1))).setCell ⟨c, 2, none⟩ (.bool true)) c (Go.Proofs.YtefohnbmifblkaaDoor.fin d) := row_setCell (row_setCell h _) _
theorem RDet.drew {w w' : World} {c : Nat} {d : DS} (h : RDet w c d) (k : Drew w w') : RDet w' c d := by
  unfold RDet
  rw [k.heap]
  exact h
theorem RDet.cells {w : World} {c : Nat} {d : DS} (h : RDet w c d) : w.cell? ⟨c, 0, none⟩ = some (.int .i64 d.hint) ∧ w.cell? ⟨c, 1, none⟩ = some (.string ⟨d.bs.toArray⟩) ∧ w.cell? ⟨c, 2, none⟩ = some (.bool d.ended) ∧ w.cell? ⟨c, 3, none⟩ = some (.int .i64 d.acts) ∧ ∀ k, w.frozen? ⟨c, k, none⟩ = false :=
  ⟨cell_of_row w c 0 _ _ _ h, cell_of_row w c 1 _ _ _ h, cell_of_row w c 2 _ _ _ h, cell_of_row w c 3 _ _ _ h, fun _ => by unfold World.frozen?; simp [show w.heap[c]? = _ from h]⟩

theorem Mx.keep {w w' : World} {c : Nat} (h : Mx w) (hk : Keep w w' c none) (hc : 2 ≠ c) : Mx w' := by
  obtain ⟨m, hm⟩ := h
  exact ⟨m, (hk.cell (p := ⟨2, 0, none⟩) (lt_of_cell hm) hc (fun e => by cases e)).trans hm⟩
theorem Mx.drew {w w' : World} (h : Mx w) (k : Drew w w') : Mx w' := h.below k.below

theorem mx_of_shape {W : World} (h : W.ShapedOpen Tryd.prog) : Mx W := Tryd.laysM146.s1_3 W h

/-- the verdict's last part. -/
theorem vd_fin (d : DS) : (d.ended = true → (vd d).2.2 = true) ∧ ((vd d).2.1 = 1 → (vd d).2.2 = true) ∧ (d.ended = false → ((vd d).2.1 = 2 ∨ (vd d).2.1 = 3) → (vd d).2.2 = !Pl.mayMark d.bs) ∧ (d.ended = false → ((vd d).2.1 = 0 ∨ (vd d).2.1 = 4) → (vd d).2.2 = false) ∧ ((vd d).2.1 = 0 ∨ (vd d).2.1 = 1 ∨ (vd d).2.1 = 2 ∨ (vd d).2.1 = 3 ∨ (vd d).2.1 = 4) := by
  unfold vd
  repeat' split
  all_goals refine ⟨fun h => ?_, fun h => ?_, fun h k => ?_, fun h k => ?_, ?_⟩
  all_goals first
    | rfl
    | (rw [h]; simp; done)
    | exact h
    | (simp at h; done)
    | (simp at k; done)
    | simp

/-- when the verdict's judge has answered: block q holds what he said. -/
structure Vk (w : World) (c q : Nat) (B : ByteArray) (en : Bool) (e0 e1 : Int) (W : World) : Prop where
  below : Below w.heap.size w W
  c1 : W.cell? ⟨c, 1, none⟩ = some (.string B)
  c2 : W.cell? ⟨c, 2, none⟩ = some (.bool en)
  rs : W.cell? ⟨w.heap.size, 0, none⟩ = some (.int .i64 0) ∧ W.cell? ⟨w.heap.size, 1, none⟩ = some (.int .i64 0) ∧ W.cell? ⟨w.heap.size, 2, none⟩ = some (.bool false) ∧ ∀ k, W.frozen? ⟨w.heap.size, k, none⟩ = false
  qs : W.cell? ⟨q, 0, none⟩ = some (.int .i64 e0) ∧ W.cell? ⟨q, 1, none⟩ = some (.int .i64 e1) ∧ W.cell? ⟨q, 2, none⟩ = some (.bool false) ∧ ∀ k, W.frozen? ⟨q, k, none⟩ = false
  low : w.heap.size ≤ q
  apart : (¬ c = q) ∧ (¬ q = c) ∧ (¬ c = w.heap.size) ∧ (¬ w.heap.size = c) ∧ (¬ w.heap.size = q) ∧ (¬ q = w.heap.size)
theorem row_facts {W : World} {g : Nat} {a b x : Value} {t : TypeId} (h : W.heap[g]? = some (.cells #[a, b, x] t (0, 0))) : W.cell? ⟨g, 0, none⟩ = some a ∧ W.cell? ⟨g, 1, none⟩ = some b ∧ W.cell? ⟨g, 2, none⟩ = some x ∧ ∀ k, W.frozen? ⟨g, k, none⟩ = false :=
  ⟨cell_of_row W g 0 _ _ _ h, cell_of_row W g 1 _ _ _ h, cell_of_row W g 2 _ _ _ h, fun _ => by unfold World.frozen?; simp [h]⟩
theorem Vk.one {w X w1 : World} {c : Nat} {d : DS} {B : ByteArray} {en : Bool} {e0 e1 : Int} {t : TypeId} (hR : RDet w c d) (hB : (⟨d.bs.toArray⟩ : ByteArray) = B) (hE : d.ended = en) (hX : Below w.heap.size w X) (hZ : X.heap[w.heap.size]? = some (.cells #[.int .i64 0, .int .i64 0, .bool false] t (0, 0))) (hb : Below X.heap.size X w1) :
    Vk w c w1.heap.size B en e0 e1 (w1.alloc (.cells #[.int .i64 e0, .int .i64 e1, .bool false] t)) := by
  have hlt := hR.lt
  have hzx := (Array.getElem?_eq_some_iff.1 hZ).1
  have hz1 := hb.size
  have hbw := hX.trans (hb.mono hX.size)
  have h1 := (hR.below hbw).alloc (.cells #[.int .i64 e0, .int .i64 e1, .bool false] t)
  have h2 : (w1.alloc (.cells #[.int .i64 e0, .int .i64 e1, .bool false] t)).heap[w.heap.size]? = some (.cells #[.int .i64 0, .int .i64 0, .bool false] t (0, 0)) := (Go.Deep.blk_alloc_lt _ _ _ (by omega)).trans ((hb.block _ hzx).trans hZ)
  obtain ⟨_, k1, k2, _, _⟩ := h1.cells
  exact ⟨hbw.alloc hbw.size _, hB ▸ k1, hE ▸ k2, row_facts h2, row_facts (heap_alloc_new w1 _), by omega, by omega⟩
theorem Vk.two {w X w1 : World} {c : Nat} {d : DS} {B : ByteArray} {en : Bool} {e0 e1 : Int} {t : TypeId} (hR : RDet w c d) (hB : (⟨d.bs.toArray⟩ : ByteArray) = B) (hE : d.ended = en) (hX : Below w.heap.size w X) (hZ : X.heap[w.heap.size]? = some (.cells #[.int .i64 0, .int .i64 0, .bool false] t (0, 0))) (hY : X.heap[w.heap.size + 1]? = some (.cells #[.int .i64 0, .int .i64 0, .bool false] t (0, 0))) (hb : Below X.heap.size X w1) :
    Vk w c (w.heap.size + 1) B en e0 e1 (((w1.setCell ⟨w.heap.size + 1, 0, none⟩ (.int .i64 e0)).setCell ⟨w.heap.size + 1, 1, none⟩ (.int .i64 e1)).setCell ⟨w.heap.size + 1, 2, none⟩ (.bool false)) := by
  have hlt := hR.lt
  have hzx := (Array.getElem?_eq_some_iff.1 hZ).1
  have hyx := (Array.getElem?_eq_some_iff.1 hY).1
  have hbw := hX.trans (hb.mono hX.size)
  have h1 := (((hR.below hbw).far (p := ⟨w.heap.size + 1, 0, none⟩) (by show ¬ w.heap.size + 1 = c; omega) (.int .i64 e0)).far (p := ⟨w.heap.size + 1, 1, none⟩) (by show ¬ w.heap.size + 1 = c; omega) (.int .i64 e1)).far (p := ⟨w.heap.size + 1, 2, none⟩) (by show ¬ w.heap.size + 1 = c; omega) (.bool false)
  have h2 := (hb.block _ hzx).trans hZ
  have h3 : (((w1.setCell ⟨w.heap.size + 1, 0, none⟩ (.int .i64 e0)).setCell ⟨w.heap.size + 1, 1, none⟩ (.int .i64 e1)).setCell ⟨w.heap.size + 1, 2, none⟩ (.bool false)).heap[w.heap.size]? = some (.cells #[.int .i64 0, .int .i64 0, .bool false] t (0, 0)) :=
    (Go.Deep.blk_setCell_other _ _ _ _ (by show ¬ w.heap.size = w.heap.size + 1; omega)).trans ((Go.Deep.blk_setCell_other _ _ _ _ (by show ¬ w.heap.size = w.heap.size + 1; omega)).trans ((Go.Deep.blk_setCell_other _ _ _ _ (by show ¬ w.heap.size = w.heap.size + 1; omega)).trans h2))
  have h4 := row_setCell (k := 2) (row_setCell (k := 1) (row_setCell (k := 0) ((hb.block _ hyx).trans hY) (.int .i64 e0)) (.int .i64 e1)) (.bool false)
  obtain ⟨_, k1, k2, _, _⟩ := h1.cells
  exact ⟨((hbw.setCell (p := ⟨_, 0, none⟩) (Nat.le_succ _) _).setCell (p := ⟨_, 1, none⟩) (Nat.le_succ _) _).setCell (p := ⟨_, 2, none⟩) (Nat.le_succ _) _, hB ▸ k1, hE ▸ k2, row_facts h3, row_facts h4, by omega, by omega⟩

set_option maxRecDepth 100000 in
set_option maxHeartbeats 8000000 in
theorem refVd_any (c : Nat) (d : DS) (w : World) (hR : RDet w c d) (hok : OkD d) (hsc : ScF d) (hmx : Mx w) :
    Calls Tryd.prog 52 #[.pointer (some ⟨c, 0, none⟩)] w fun e w' => e = .returned (.agg #[.int .i64 (vd d).1, .int .i64 (vd d).2.1, .bool (vd d).2.2]) ∧ Below w.heap.size w w' := by
  obtain ⟨f1, f2, f3, f4, f5⟩ := vd_fin d
  have hjd := vd_jd d hsc hok.h0 hok.h1
  have hlen := hok.len
  have hb : c < w.heap.size := hR.lt
  have HJ : Hid (∀ W, Mx W → Calls Tryd.prog 36 #[.int .i64 d.hint, .string ⟨d.bs.toArray⟩] W fun e w' => e = .returned (.agg #[.int .i64 (vd d).1, .int .i64 (vd d).2.1, .bool false]) ∧ Below W.heap.size W w') := Lib.hid fun W hW => by
    have h := judgeOf_any d.hint ⟨d.bs.toArray⟩ W (by show d.bs.toArray.size ≤ _; simpa using hlen) hW
    rw [show (⟨d.bs.toArray⟩ : ByteArray).data.toList = d.bs from rfl, ← hjd] at h
    exact h
  have HQ : Hid (∀ W, Calls Tryd.prog 21 #[.string ⟨d.bs.toArray⟩] W fun x w' => x = .returned (.bool (Pl.mayMark d.bs)) ∧ W = w') := Lib.hid fun W => mayBe_any ⟨d.bs.toArray⟩ W
  obtain ⟨e0, he0⟩ : ∃ x, (vd d).1 = x := ⟨_, rfl⟩
  obtain ⟨e1, he1⟩ : ∃ x, (vd d).2.1 = x := ⟨_, rfl⟩
  obtain ⟨F, hF⟩ : ∃ x, (vd d).2.2 = x := ⟨_, rfl⟩
  obtain ⟨Q, hQ⟩ : ∃ x, Pl.mayMark d.bs = x := ⟨_, rfl⟩
  obtain ⟨B, hB⟩ : ∃ x, (⟨d.bs.toArray⟩ : ByteArray) = x := ⟨_, rfl⟩
  obtain ⟨c0, c1, c2, c3, hfz⟩ := hR.cells
  rw [he0, he1] at HJ
  rw [he1, hF] at f2
  rw [he1] at f5
  rw [hF] at f1
  rw [he1, hF, hQ] at f3
  rw [he1, hF] at f4
  rw [hQ] at HQ
  rw [hB] at HJ HQ c1
  rw [he0, he1, hF]
  have HR := Lib.hid hR
  have HBc := Lib.hid hB
  have HM := Lib.hid hmx
  have HF1 := Lib.hid f1
  have HF2 := Lib.hid f2
  have HF3 := Lib.hid f3
  have HF4 := Lib.hid f4
  clear f1 f2 f3 f4 hjd he0 he1 hF hQ hB hR hok hsc hmx hlen
  obtain ⟨en, hen⟩ : ∃ x, d.ended = x := ⟨_, rfl⟩
  have HEn := Lib.hid hen
  have HX1 : Hid (Below w.heap.size w (w.alloc (.cells #[.int .i64 0, .int .i64 0, .bool false] 35)).drew) := Lib.hid (below_drewN ((Below.refl w.heap.size w).alloc (Nat.le_refl _) (.cells #[.int .i64 0, .int .i64 0, .bool false] 35)) 1)
  have HX2 : Hid (Below w.heap.size w ((w.alloc (.cells #[.int .i64 0, .int .i64 0, .bool false] 35)).alloc (.cells #[.int .i64 0, .int .i64 0, .bool false] 35)).drew) := Lib.hid (below_drewN (two_new w (.cells #[.int .i64 0, .int .i64 0, .bool false] 35) (.cells #[.int .i64 0, .int .i64 0, .bool false] 35)) 1)
  have HZ1 : Hid ((w.alloc (.cells #[.int .i64 0, .int .i64 0, .bool false] 35)).drew.heap[w.heap.size]? = some (.cells #[.int .i64 0, .int .i64 0, .bool false] 35 (0, 0))) := Lib.hid (heap_alloc_new w _)
  have HZ2 : Hid (((w.alloc (.cells #[.int .i64 0, .int .i64 0, .bool false] 35)).alloc (.cells #[.int .i64 0, .int .i64 0, .bool false] 35)).drew.heap[w.heap.size]? = some (.cells #[.int .i64 0, .int .i64 0, .bool false] 35 (0, 0))) := Lib.hid ((Go.Deep.blk_alloc_lt _ _ _ (by simp)).trans (heap_alloc_new w _))
  have HY2 : Hid (((w.alloc (.cells #[.int .i64 0, .int .i64 0, .bool false] 35)).alloc (.cells #[.int .i64 0, .int .i64 0, .bool false] 35)).drew.heap[w.heap.size + 1]? = some (.cells #[.int .i64 0, .int .i64 0, .bool false] 35 (0, 0))) := Lib.hid (heap_at (by simp))
  rw [hen] at c2 HF1 HF3 HF4
  clear hen
  have cs : (en = true ∧ F = true) ∨ (en = false ∧ e1 = 1 ∧ F = true) ∨ (en = false ∧ e1 = 4 ∧ F = false) ∨ (en = false ∧ e1 = 0 ∧ F = false) ∨ (en = false ∧ e1 = 2 ∧ F = !Q) ∨ (en = false ∧ e1 = 3 ∧ F = !Q) := by
    cases en
    · rcases f5 with h | h | h | h | h
      · exact .inr (.inr (.inr (.inl ⟨rfl, h, HF4.out rfl (.inl h)⟩)))
      · exact .inr (.inl ⟨rfl, h, HF2.out h⟩)
      · exact .inr (.inr (.inr (.inr (.inl ⟨rfl, h, HF3.out rfl (.inl h)⟩))))
      · exact .inr (.inr (.inr (.inr (.inr ⟨rfl, h, HF3.out rfl (.inr h)⟩))))
      · exact .inr (.inr (.inl ⟨rfl, h, HF4.out rfl (.inr h)⟩))
    · exact .inl ⟨rfl, HF1.out rfl⟩
  clear HF1 HF2 HF3 HF4 f5
  rcases cs with ⟨rfl, rfl⟩ | ⟨rfl, rfl, rfl⟩ | ⟨rfl, rfl, rfl⟩ | ⟨rfl, rfl, rfl⟩ | ⟨rfl, rfl, rfl⟩ | ⟨rfl, rfl, rfl⟩
  · go_enter Tryd.func52, Tryd.ntmps52
    go_wp2_with fail
    go_region_with
      (first
        | (go_at_call 36
           with_reducible refine (HJ.out (w.alloc (.cells #[.int .i64 0, .int .i64 0, .bool false] 35)).drew (HM.out.below HX1.out)).mono ?_
           rintro x1 w1 ⟨rfl, hb1⟩
           have HV := Lib.hid (Vk.one (e0 := e0) (e1 := e1) HR.out HBc.out HEn.out HX1.out HZ1.out hb1)
           clear hb1)
        | (go_at_call 36
           with_reducible refine (HJ.out ((w.alloc (.cells #[.int .i64 0, .int .i64 0, .bool false] 35)).alloc (.cells #[.int .i64 0, .int .i64 0, .bool false] 35)).drew (HM.out.below HX2.out)).mono ?_
           rintro x1 w1 ⟨rfl, hb1⟩
           have HV := Lib.hid (Vk.two (e0 := e0) (e1 := e1) HR.out HBc.out HEn.out HX2.out HZ2.out HY2.out hb1)
           obtain ⟨gx, gz⟩ := alloc_cells HY2.out hb1
           clear hb1))
    all_goals
      first
        | (generalize World.alloc _ _ = W at HV ⊢
           generalize w1.heap.size = q at HV ⊢)
        | (generalize World.setCell (World.setCell (World.setCell _ _ _) _ _) _ _ = W at HV ⊢
           generalize w.heap.size + 1 = q at HV ⊢
           clear gx gz)
      have k1 := HV.out.c1
      have k2 := HV.out.c2
      obtain ⟨q0, q1, q2, q3⟩ := HV.out.qs
      obtain ⟨r0, r1, r2, r3⟩ := HV.out.rs
      obtain ⟨n1, n2, n3, n4, n5, n6⟩ := HV.out.apart
      clear c0 c1 c2 c3 hfz hb
      go_wp2_with fail
      refine bodyPost_ret (v := .agg #[.int .i64 e0, .int .i64 e1, .bool true]) (by simp [results, Tryd.results52, go_sem, r0, r1, r2]) rfl ⟨rfl, ?_⟩
      exact ((((HV.out.below.setCell (p := ⟨_, _, none⟩) HV.out.low _).setCell (p := ⟨_, _, none⟩) (Nat.le_refl _) _).setCell (p := ⟨_, _, none⟩) (Nat.le_refl _) _).setCell (p := ⟨_, _, none⟩) (Nat.le_refl _) _)
  · go_enter Tryd.func52, Tryd.ntmps52
    go_wp2_with fail
    go_region_with
      (first
        | (go_at_call 36
           with_reducible refine (HJ.out (w.alloc (.cells #[.int .i64 0, .int .i64 0, .bool false] 35)).drew (HM.out.below HX1.out)).mono ?_
           rintro x1 w1 ⟨rfl, hb1⟩
           have HV := Lib.hid (Vk.one (e0 := e0) (e1 := 1) HR.out HBc.out HEn.out HX1.out HZ1.out hb1)
           clear hb1)
        | (go_at_call 36
           with_reducible refine (HJ.out ((w.alloc (.cells #[.int .i64 0, .int .i64 0, .bool false] 35)).alloc (.cells #[.int .i64 0, .int .i64 0, .bool false] 35)).drew (HM.out.below HX2.out)).mono ?_
           rintro x1 w1 ⟨rfl, hb1⟩
           have HV := Lib.hid (Vk.two (e0 := e0) (e1 := 1) HR.out HBc.out HEn.out HX2.out HZ2.out HY2.out hb1)
           obtain ⟨gx, gz⟩ := alloc_cells HY2.out hb1
           clear hb1))
    all_goals
      first
        | (generalize World.alloc _ _ = W at HV ⊢
           generalize w1.heap.size = q at HV ⊢)
        | (generalize World.setCell (World.setCell (World.setCell _ _ _) _ _) _ _ = W at HV ⊢
           generalize w.heap.size + 1 = q at HV ⊢
           clear gx gz)
      have k1 := HV.out.c1
      have k2 := HV.out.c2
      obtain ⟨q0, q1, q2, q3⟩ := HV.out.qs
      obtain ⟨r0, r1, r2, r3⟩ := HV.out.rs
      obtain ⟨n1, n2, n3, n4, n5, n6⟩ := HV.out.apart
      clear c0 c1 c2 c3 hfz hb
      go_wp2_with fail
      refine bodyPost_ret (v := .agg #[.int .i64 e0, .int .i64 1, .bool true]) (by simp [results, Tryd.results52, go_sem, r0, r1, r2]) rfl ⟨rfl, ?_⟩
      exact ((((HV.out.below.setCell (p := ⟨_, _, none⟩) HV.out.low _).setCell (p := ⟨_, _, none⟩) (Nat.le_refl _) _).setCell (p := ⟨_, _, none⟩) (Nat.le_refl _) _).setCell (p := ⟨_, _, none⟩) (Nat.le_refl _) _)
  · go_enter Tryd.func52, Tryd.ntmps52
    go_wp2_with fail
    go_region_with
      (first
        | (go_at_call 36
           with_reducible refine (HJ.out (w.alloc (.cells #[.int .i64 0, .int .i64 0, .bool false] 35)).drew (HM.out.below HX1.out)).mono ?_
           rintro x1 w1 ⟨rfl, hb1⟩
           have HV := Lib.hid (Vk.one (e0 := e0) (e1 := 4) HR.out HBc.out HEn.out HX1.out HZ1.out hb1)
           clear hb1)
        | (go_at_call 36
           with_reducible refine (HJ.out ((w.alloc (.cells #[.int .i64 0, .int .i64 0, .bool false] 35)).alloc (.cells #[.int .i64 0, .int .i64 0, .bool false] 35)).drew (HM.out.below HX2.out)).mono ?_
           rintro x1 w1 ⟨rfl, hb1⟩
           have HV := Lib.hid (Vk.two (e0 := e0) (e1 := 4) HR.out HBc.out HEn.out HX2.out HZ2.out HY2.out hb1)
           obtain ⟨gx, gz⟩ := alloc_cells HY2.out hb1
           clear hb1))
    all_goals
      first
        | (generalize World.alloc _ _ = W at HV ⊢
           generalize w1.heap.size = q at HV ⊢)
        | (generalize World.setCell (World.setCell (World.setCell _ _ _) _ _) _ _ = W at HV ⊢
           generalize w.heap.size + 1 = q at HV ⊢
           clear gx gz)
      have k1 := HV.out.c1
      have k2 := HV.out.c2
      obtain ⟨q0, q1, q2, q3⟩ := HV.out.qs
      obtain ⟨r0, r1, r2, r3⟩ := HV.out.rs
      obtain ⟨n1, n2, n3, n4, n5, n6⟩ := HV.out.apart
      clear c0 c1 c2 c3 hfz hb
      go_wp2_with fail
      refine bodyPost_ret (v := .agg #[.int .i64 e0, .int .i64 4, .bool false]) (by simp [results, Tryd.results52, go_sem, r0, r1, r2]) rfl ⟨rfl, ?_⟩
      exact ((((HV.out.below.setCell (p := ⟨_, _, none⟩) HV.out.low _).setCell (p := ⟨_, _, none⟩) (Nat.le_refl _) _).setCell (p := ⟨_, _, none⟩) (Nat.le_refl _) _).setCell (p := ⟨_, _, none⟩) (Nat.le_refl _) _)
  · go_enter Tryd.func52, Tryd.ntmps52
    go_wp2_with fail
    go_region_with
      (first
        | (go_at_call 36
           with_reducible refine (HJ.out (w.alloc (.cells #[.int .i64 0, .int .i64 0, .bool false] 35)).drew (HM.out.below HX1.out)).mono ?_
           rintro x1 w1 ⟨rfl, hb1⟩
           have HV := Lib.hid (Vk.one (e0 := e0) (e1 := 0) HR.out HBc.out HEn.out HX1.out HZ1.out hb1)
           clear hb1)
        | (go_at_call 36
           with_reducible refine (HJ.out ((w.alloc (.cells #[.int .i64 0, .int .i64 0, .bool false] 35)).alloc (.cells #[.int .i64 0, .int .i64 0, .bool false] 35)).drew (HM.out.below HX2.out)).mono ?_
           rintro x1 w1 ⟨rfl, hb1⟩
           have HV := Lib.hid (Vk.two (e0 := e0) (e1 := 0) HR.out HBc.out HEn.out HX2.out HZ2.out HY2.out hb1)
           obtain ⟨gx, gz⟩ := alloc_cells HY2.out hb1
           clear hb1))
    all_goals
      first
        | (generalize World.alloc _ _ = W at HV ⊢
           generalize w1.heap.size = q at HV ⊢)
        | (generalize World.setCell (World.setCell (World.setCell _ _ _) _ _) _ _ = W at HV ⊢
           generalize w.heap.size + 1 = q at HV ⊢
           clear gx gz)
      have k1 := HV.out.c1
      have k2 := HV.out.c2
      obtain ⟨q0, q1, q2, q3⟩ := HV.out.qs
      obtain ⟨r0, r1, r2, r3⟩ := HV.out.rs
      obtain ⟨n1, n2, n3, n4, n5, n6⟩ := HV.out.apart
      clear c0 c1 c2 c3 hfz hb
      go_wp2_with fail
      refine bodyPost_ret (v := .agg #[.int .i64 e0, .int .i64 0, .bool false]) (by simp [results, Tryd.results52, go_sem, r0, r1, r2]) rfl ⟨rfl, ?_⟩
      exact ((((HV.out.below.setCell (p := ⟨_, _, none⟩) HV.out.low _).setCell (p := ⟨_, _, none⟩) (Nat.le_refl _) _).setCell (p := ⟨_, _, none⟩) (Nat.le_refl _) _).setCell (p := ⟨_, _, none⟩) (Nat.le_refl _) _)
  · go_enter Tryd.func52, Tryd.ntmps52
    go_wp2_with fail
    go_region_with
      (first
        | (go_at_call 36
           with_reducible refine (HJ.out (w.alloc (.cells #[.int .i64 0, .int .i64 0, .bool false] 35)).drew (HM.out.below HX1.out)).mono ?_
           rintro x1 w1 ⟨rfl, hb1⟩
           have HV := Lib.hid (Vk.one (e0 := e0) (e1 := 2) HR.out HBc.out HEn.out HX1.out HZ1.out hb1)
           clear hb1)
        | (go_at_call 36
           with_reducible refine (HJ.out ((w.alloc (.cells #[.int .i64 0, .int .i64 0, .bool false] 35)).alloc (.cells #[.int .i64 0, .int .i64 0, .bool false] 35)).drew (HM.out.below HX2.out)).mono ?_
           rintro x1 w1 ⟨rfl, hb1⟩
           have HV := Lib.hid (Vk.two (e0 := e0) (e1 := 2) HR.out HBc.out HEn.out HX2.out HZ2.out HY2.out hb1)
           obtain ⟨gx, gz⟩ := alloc_cells HY2.out hb1
           clear hb1))
    all_goals
      first
        | (generalize World.alloc _ _ = W at HV ⊢
           generalize w1.heap.size = q at HV ⊢)
        | (generalize World.setCell (World.setCell (World.setCell _ _ _) _ _) _ _ = W at HV ⊢
           generalize w.heap.size + 1 = q at HV ⊢
           clear gx gz)
      have k1 := HV.out.c1
      have k2 := HV.out.c2
      obtain ⟨q0, q1, q2, q3⟩ := HV.out.qs
      obtain ⟨r0, r1, r2, r3⟩ := HV.out.rs
      obtain ⟨n1, n2, n3, n4, n5, n6⟩ := HV.out.apart
      clear c0 c1 c2 c3 hfz hb
      go_wp2_with fail
      refine (HQ.out _).mono ?_
      rintro x2 w2 ⟨rfl, hw2⟩
      subst hw2
      go_wp2_with fail
      refine bodyPost_ret (v := .agg #[.int .i64 e0, .int .i64 2, .bool (!Q)]) (by simp [results, Tryd.results52, go_sem, r0, r1, r2]) rfl ⟨rfl, ?_⟩
      exact ((((HV.out.below.setCell (p := ⟨_, _, none⟩) HV.out.low _).setCell (p := ⟨_, _, none⟩) (Nat.le_refl _) _).setCell (p := ⟨_, _, none⟩) (Nat.le_refl _) _).setCell (p := ⟨_, _, none⟩) (Nat.le_refl _) _)
  · go_enter Tryd.func52, Tryd.ntmps52
    go_wp2_with fail
    go_region_with
      (first
        | (go_at_call 36
           with_reducible refine (HJ.out (w.alloc (.cells #[.int .i64 0, .int .i64 0, .bool false] 35)).drew (HM.out.below HX1.out)).mono ?_
           rintro x1 w1 ⟨rfl, hb1⟩
           have HV := Lib.hid (Vk.one (e0 := e0) (e1 := 3) HR.out HBc.out HEn.out HX1.out HZ1.out hb1)
           clear hb1)
        | (go_at_call 36
           with_reducible refine (HJ.out ((w.alloc (.cells #[.int .i64 0, .int .i64 0, .bool false] 35)).alloc (.cells #[.int .i64 0, .int .i64 0, .bool false] 35)).drew (HM.out.below HX2.out)).mono ?_
           rintro x1 w1 ⟨rfl, hb1⟩
           have HV := Lib.hid (Vk.two (e0 := e0) (e1 := 3) HR.out HBc.out HEn.out HX2.out HZ2.out HY2.out hb1)
           obtain ⟨gx, gz⟩ := alloc_cells HY2.out hb1
           clear hb1))
    all_goals
      first
        | (generalize World.alloc _ _ = W at HV ⊢
           generalize w1.heap.size = q at HV ⊢)
        | (generalize World.setCell (World.setCell (World.setCell _ _ _) _ _) _ _ = W at HV ⊢
           generalize w.heap.size + 1 = q at HV ⊢
           clear gx gz)
      have k1 := HV.out.c1
      have k2 := HV.out.c2
      obtain ⟨q0, q1, q2, q3⟩ := HV.out.qs
      obtain ⟨r0, r1, r2, r3⟩ := HV.out.rs
      obtain ⟨n1, n2, n3, n4, n5, n6⟩ := HV.out.apart
      clear c0 c1 c2 c3 hfz hb
      go_wp2_with fail
      refine (HQ.out _).mono ?_
      rintro x2 w2 ⟨rfl, hw2⟩
      subst hw2
      go_wp2_with fail
      refine bodyPost_ret (v := .agg #[.int .i64 e0, .int .i64 3, .bool (!Q)]) (by simp [results, Tryd.results52, go_sem, r0, r1, r2]) rfl ⟨rfl, ?_⟩
      exact ((((HV.out.below.setCell (p := ⟨_, _, none⟩) HV.out.low _).setCell (p := ⟨_, _, none⟩) (Nat.le_refl _) _).setCell (p := ⟨_, _, none⟩) (Nat.le_refl _) _).setCell (p := ⟨_, _, none⟩) (Nat.le_refl _) _)
end Go.Proofs.YtefohnbmifblkaaDoor
