/-
  The walk of TopFinal.
-/
import Derived.Test.YtefohnbmifblkaaDoorTpH
namespace Go.Proofs.YtefohnbmifblkaaDoor
open Go.RowKit

def vdCells (v : Int × Int × Bool) : Array Value := #[.int .i64 v.1, .int .i64 v.2.1, .bool v.2.2]

set_option maxRecDepth 100000 in
set_option maxHeartbeats 2000000 in
/-- the reply is looked at: it is an error, or of a feed. -/
theorem final_skip (b : Value) (B : Nat) (k : Int) (bs : ByteArray) (c x y : Int) (f : Bool) (u : Value) (W : World) (h : ¬ c = 0 ∨ k = 1) :
    Calls Tryd.prog 32 #[b, .agg #[.int .i64 k, .string bs], .agg #[.int .i64 c, .int .i64 x, .int .i64 y, .bool f, u], .pointer (some ⟨B, 0, none⟩)] W fun e w' => e = .returned (.bool true) ∧ Below W.heap.size W w' := by
  by_cases hc : c = 0
  · have hk : k = 1 := by rcases h with h | h; exact absurd hc h; exact h
    subst hc hk
    go_enter Tryd.func32, Tryd.ntmps32
    go_wp2
    go_ret
    exact ⟨rfl, two_new _ _ _⟩
  · have hcb : (c != 0) = true := by rw [bne_iff_ne]; exact hc
    go_enter Tryd.func32, Tryd.ntmps32
    go_wp2
    go_ret
    exact ⟨rfl, two_new _ _ _⟩

set_option maxRecDepth 100000 in
set_option maxHeartbeats 2000000 in
theorem final_take (b : Value) (B : Nat) (k : Int) (bs : ByteArray) (x y v0 v1 : Int) (f v2 : Bool) (u : Value) (W : World) (hk : ¬ k = 1) (hB : W.heap[B]? = some (.cells (vdCells (v0, v1, v2)) 35 (0, 0))) (hv : v2 = true → (x, y, f) = (v0, v1, v2)) (hx : 1 ≤ x ∧ x ≤ 6) (hy : 0 ≤ y ∧ y ≤ 4) :
    Calls Tryd.prog 32 #[b, .agg #[.int .i64 k, .string bs], .agg #[.int .i64 0, .int .i64 x, .int .i64 y, .bool f, u], .pointer (some ⟨B, 0, none⟩)] W fun e w' => e = .returned (.bool true) ∧ Keep W w' B none ∧ w'.heap[B]? = some (.cells (vdCells (x, y, f)) 35 (0, 0)) := by
  have hlt : B < W.heap.size := (Array.getElem?_eq_some_iff.1 hB).1
  have c0 : W.cell? ⟨B, 0, none⟩ = some (.int .i64 v0) := cell_of_row W B 0 _ _ _ hB
  have c1 : W.cell? ⟨B, 1, none⟩ = some (.int .i64 v1) := cell_of_row W B 1 _ _ _ hB
  have c2 : W.cell? ⟨B, 2, none⟩ = some (.bool v2) := cell_of_row W B 2 _ _ _ hB
  have hf0 : ∀ j, W.frozen? ⟨B, j, none⟩ = false := fun _ => by unfold World.frozen?; simp [hB]
  have HB := Lib.hid hB
  clear hB
  have hkb : (k == 1) = false := beq_eq_false_iff_ne.2 hk
  obtain ⟨hx0, hx1⟩ := hx
  obtain ⟨hy0, hy1⟩ := hy
  cases v2
  · clear hv
    go_enter Tryd.func32, Tryd.ntmps32
    go_wp2_with fail
    go_ret
    refine ⟨rfl, (((((Keep.refl W B none).set (.inl rfl) _).set (.inl rfl) _).set (.inl rfl) _).alloc _).alloc _, ?_⟩
    have h3 := row_setCell (k := 2) (row_setCell (k := 1) (row_setCell (k := 0) HB.out (.int .i64 x)) (.int .i64 y)) (.bool f)
    exact (Go.Deep.blk_alloc_lt _ _ _ (by simp [World.setCell]; omega)).trans ((Go.Deep.blk_alloc_lt _ _ _ (by simp [World.setCell]; omega)).trans h3)
  · have h := hv rfl
    simp only [Prod.mk.injEq] at h
    obtain ⟨rfl, rfl, rfl⟩ := h
    clear hv
    go_enter Tryd.func32, Tryd.ntmps32
    go_wp2_with fail
    go_ret
    refine ⟨rfl, (((((Keep.refl W B none).set (.inl rfl) _).set (.inl rfl) _).set (.inl rfl) _).alloc _).alloc _, ?_⟩
    have h3 := row_setCell (k := 2) (row_setCell (k := 1) (row_setCell (k := 0) HB.out (.int .i64 x)) (.int .i64 y)) (.bool true)
    exact (Go.Deep.blk_alloc_lt _ _ _ (by simp [World.setCell]; omega)).trans ((Go.Deep.blk_alloc_lt _ _ _ (by simp [World.setCell]; omega)).trans h3)

/-- what is kept of the verdicts that were told. -/
def FinJ (B : Nat) (d0 : DS) (l : List Ac) (k : Nat) (W : World) : Prop := ∃ v, W.heap[B]? = some (.cells (vdCells v) 35 (0, 0)) ∧ Fi (runA d0 (l.take k)) v
theorem final_looks (w : World) (d0 : DS) (l : List Ac) (B : Nat) (hlow : w.heap.size ≤ B) (h0 : OkD d0) : Looks w d0 l 32 #[.pointer (some ⟨B, 0, none⟩)] (FinJ B d0 l) := by
  intro k a W b u base hx _ hJ hat _
  obtain ⟨v, hB, hf⟩ := hJ
  have hok := (runA_ok d0 h0 (l.take k)).doDS a.1 a.2.data.toList
  have hst := hf.step a.1 a.2.data.toList
  have hrep := ok_reply (runA d0 (l.take k)) a.1 a.2.data.toList
  have hra := vd_range _ hok.h0 hok.h1
  have hby := vd_by (doDS (runA d0 (l.take k)) a.1 a.2.data.toList).1
  have hsucc : runA d0 (l.take (k + 1)) = (doDS (runA d0 (l.take k)) a.1 a.2.data.toList).1 := runA_succ d0 l k a hx
  obtain ⟨r, hr⟩ : ∃ r, (doDS (runA d0 (l.take k)) a.1 a.2.data.toList).2 = r := ⟨_, rfl⟩
  rw [hr] at hrep ⊢
  obtain ⟨cd, ⟨x, y, f⟩, out⟩ := r
  by_cases hc : ¬ cd = 0 ∨ a.1 = 1
  · refine (final_skip _ B a.1 a.2 cd x y f u W hc).mono ?_
    rintro e w' ⟨rfl, hb⟩
    refine ⟨rfl, ⟨v, (hb.block _ (Array.getElem?_eq_some_iff.1 hB).1).trans hB, ?_⟩, hat.next hb⟩
    rw [hsucc]
    exact hst
  · have hc0 : cd = 0 := Classical.byContradiction fun h => hc (.inl h)
    have hk1 : ¬ a.1 = 1 := fun h => hc (.inr h)
    subst hc0
    have hv : (x, y, f) = vd (doDS (runA d0 (l.take k)) a.1 a.2.data.toList).1 := hrep rfl hk1
    rw [← hv] at hra hby
    obtain ⟨v0, v1, v2⟩ := v
    refine (final_take _ B a.1 a.2 x y v0 v1 f v2 u W hk1 hB (fun h => hv.trans (hst h)) hra hby).mono ?_
    rintro e w' ⟨rfl, hk, hB'⟩
    refine ⟨rfl, ⟨(x, y, f), hB', ?_⟩, hat.only hB (by decide) (by decide) hlow hk⟩
    rw [hsucc, hv]
    exact Fi.self _
theorem enters_final : ∀ args W, (callFunc 32 args).run Tryd.prog W = .ok (.enter 32 args) W := enters_of Tryd.func32 (by kernel_rfl) rfl

set_option maxRecDepth 100000 in
set_option maxHeartbeats 2000000 in
theorem topFinal_walk (hint : ByteArray) (v : Value) (l : List Ac) (w : World) (hh : hint.size ≤ maxLen) (hl : Acts w v l) (hg : Gl w) :
    Calls Tryd.prog 9 #[.string hint, v] w fun e w' => e = .returned (.bool true) ∧ Below w.heap.size w w' := by
  have HG := Lib.hid hg
  have HH := Lib.hid hh
  have HA := Lib.hid hl
  obtain ⟨p, c, rfl, _⟩ := hl
  have hf := find_range hint.data.toList
  have HO := Lib.hid (okNew _ hf.1 hf.2)
  clear hg hh hf
  go_enter Tryd.func9, Tryd.ntmps9
  go_wp2_with fail
  have hb0 : Below w.heap.size w (w.alloc (.cells #[.int .i64 0, .int .i64 0, .bool false] 35)) := (Below.refl _ _).alloc (Nat.le_refl _) _
  have hx0 : (w.alloc (.cells #[.int .i64 0, .int .i64 0, .bool false] 35)).heap[w.heap.size]? = some (.cells (vdCells (0, 0, false)) 35 (0, 0)) := heap_alloc_new w _
  refine (play_any w _ hint _ l 32 _ (FinJ w.heap.size (newDS (Pl.find hint.data.toList)) l) enters_final hb0 HG.out HH.out HA.out ?_ (final_looks w _ l w.heap.size (Nat.le_refl _) HO.out) ⟨_, hx0, Fi.none _⟩).mono ?_
  · rintro k W W' ⟨v, hB, hf⟩ hs
    exact ⟨v, hs _ _ _ _ (by decide) (by decide) hB, hf⟩
  · rintro e1 w1 ⟨b, rfl, hA1, _⟩
    have HB1 := Lib.hid hA1.below
    clear hA1 hb0 hx0
    go_wp2_with fail
    go_ret
    exact ⟨rfl, HB1.out⟩
end Go.Proofs.YtefohnbmifblkaaDoor
