/-
  The walk of detect.Tell.
-/
import Derived.Test.YtefohnbmifblkaaDoorDcF
import Derived.Test.YtefohnbmifblkaaDoorDetB
import Derived.Test.YtefohnbmifblkaaDoorPlD
namespace Go.Proofs.YtefohnbmifblkaaDoor
open Go.RowKit

/-- what bytes tell in an encoding, without a mark of it in front. -/
def tell (e : Int) (l : List UInt8) : List Int := Pl.dWhole e (if (Pl.mark l).1 = e then l.drop (Pl.mark l).2.toNat else l)

theorem mark_len (l : List UInt8) : 0 ≤ (Pl.mark l).2 ∧ (Pl.mark l).2 ≤ l.length := by
  unfold Pl.mark
  split
  · rename_i h
    have := (List.isPrefixOf_iff_prefix.1 h).length_le
    simp at this ⊢
    omega
  split
  · rename_i h
    have := (List.isPrefixOf_iff_prefix.1 h).length_le
    simp at this ⊢
    omega
  split
  · rename_i h
    have := (List.isPrefixOf_iff_prefix.1 h).length_le
    simp at this ⊢
    omega
  · simp

theorem extract_drop (bs : ByteArray) (k : Nat) : (bs.extract k bs.size).data.toList = bs.data.toList.drop k := by
  have h : bs.data.toList.length = bs.size := by simp
  rw [ByteArray.data_extract, Array.toList_extract, List.extract_eq_take_drop]
  exact List.take_of_length_le (by rw [List.length_drop, h]; exact Nat.le_refl _)
/-- what Tell answers: numbers in a slice of their own. -/
def AnsT (w : World) (l : List Int) (e : Ending) (w' : World) : Prop :=
  (∃ v, e = .returned v ∧ w'.ownsRow w.heap.size 3 1 v l.length (ints l)) ∧ Below w.heap.size w w'

set_option maxRecDepth 100000 in
set_option maxHeartbeats 4000000 in
theorem tell_any (e : Int) (bs : ByteArray) (w : World) (he : 1 ≤ e ∧ e ≤ 6) (hlen : bs.size ≤ 4000) (hg : Gl w) :
    Calls Tryd.prog 38 #[.int .i64 e, .string bs] w fun x w' => AnsT w (tell e bs.data.toList) x w' := by
  have hml := mark_len bs.data.toList
  have hs0 : bs.data.toList.length = bs.size := by simp
  obtain ⟨m, n, hm⟩ : ∃ m n, Pl.mark bs.data.toList = (m, n) := ⟨_, _, rfl⟩
  rw [hm, hs0] at hml
  obtain ⟨hn0, hn1⟩ := hml
  obtain ⟨k, rfl⟩ : ∃ k : Nat, n = (k : Int) := ⟨n.toNat, by omega⟩
  have hk : k ≤ bs.size := by simpa using hn1
  have hk2 : (k : Int) ≤ (bs.size : Int) := by omega
  have hk0 : (0 : Int) ≤ (k : Int) := by omega
  have HM : Hid (∀ W : World, Gl W → Calls Tryd.prog 17 #[.string bs] W fun x w' => x = .returned (.tuple #[.int .i64 m, .int .i64 (k : Int)]) ∧ Drew W w') := Lib.hid fun W h => by
    have := mark_any bs W h
    rwa [hm] at this
  have HW : Hid (∀ (b2 : ByteArray) (W : World), b2.size ≤ 4000 → Calls Tryd.prog 55 #[.int .i64 e, .string b2] W fun x w' => AnsE W (Pl.dWhole e b2.data.toList) x w') := Lib.hid fun b2 W h => whole_any e b2 W he h
  have HG := Lib.hid hg
  unfold tell
  rw [hm]
  dsimp only
  by_cases hme : m = e
  · subst hme
    rw [if_pos rfl]
    clear hm hg hn0 hn1 hs0 he
    go_enter Tryd.func38, Tryd.ntmps38
    go_wp2_with fail
    refine (HM.out _ HG.out).mono ?_
    rintro e1 w1 ⟨rfl, hd1⟩
    go_wp2_with fail
    refine (HW.out _ _ (by rw [ByteArray.size_extract]; omega)).mono ?_
    rintro e2 w2 ⟨⟨v, rfl, ho⟩, hb⟩
    have HO := Lib.hid ho
    have HB := Lib.hid hb
    have HD := Lib.hid hd1
    clear ho hb hd1
    go_wp2_with fail
    go_ret
    have hz := (HD.out.below (B := w.heap.size)).size
    have hO := HO.out
    rw [extract_drop] at hO
    exact ⟨⟨v, rfl, hO.mono hz⟩, bthen HD.out.below HB.out⟩
  · rw [if_neg hme]
    have hmb : (m == e) = false := beq_eq_false_iff_ne.2 hme
    clear hm hg hn0 hn1 hs0 he
    go_enter Tryd.func38, Tryd.ntmps38
    go_wp2_with fail
    refine (HM.out _ HG.out).mono ?_
    rintro e1 w1 ⟨rfl, hd1⟩
    go_wp2_with fail
    refine (HW.out _ _ hlen).mono ?_
    rintro e2 w2 ⟨⟨v, rfl, ho⟩, hb⟩
    have HO := Lib.hid ho
    have HB := Lib.hid hb
    have HD := Lib.hid hd1
    clear ho hb hd1
    go_wp2_with fail
    go_ret
    have hz := (HD.out.below (B := w.heap.size)).size
    exact ⟨⟨v, rfl, HO.out.mono hz⟩, bthen HD.out.below HB.out⟩
end Go.Proofs.YtefohnbmifblkaaDoor

/-
  detect.Do: what it does to a detector, and its answer; the walks of the acts that are refused.
-/
namespace Go.Proofs.YtefohnbmifblkaaDoor
open Go.RowKit

def scNext (sc : Nat → Int) (last b : Int) : Nat → Int := fun i =>
  if i < 2 then sc i
  else if i % 2 = 0 then Pl.aStep ((i / 2 : Nat) : Int) (sc i) b
  else if last < 0 then sc i
  else sc i + Pl.weight ((i / 2 : Nat) : Int) last b
def feedSc : (Nat → Int) → Int → List UInt8 → (Nat → Int) × Int
  | sc, last, [] => (sc, last)
  | sc, last, c :: l => feedSc (scNext sc last (Pl.byte c)) (Pl.byte c) l

/-- a reply. -/
structure Rp where
  code : Int
  vd : Int × Int × Bool
  out : List Int
def rp0 (c : Int) : Rp := ⟨c, (0, 0, false), []⟩
def tick (d : DS) : DS := { d with acts := d.acts + 1 }
def fin (d : DS) : DS := { d with acts := d.acts + 1, ended := true }
def fed (d : DS) (l : List UInt8) : DS := { d with acts := d.acts + 1, bs := d.bs ++ l, sc := (feedSc d.sc d.last l).1, last := (feedSc d.sc d.last l).2 }
/-- what an act does. -/
def doDS (d : DS) (k : Int) (l : List UInt8) : DS × Rp :=
  if 300 ≤ d.acts then (d, rp0 5)
  else if k < 1 ∨ 3 < k then (tick d, rp0 2)
  else if k = 2 then (tick d, ⟨0, vd (tick d), []⟩)
  else if d.ended = true then (tick d, rp0 3)
  else if k = 3 then (fin d, ⟨0, vd (fin d), tell (vd (fin d)).1 d.bs⟩)
  else if 4000 < d.bs.length + l.length then (tick d, rp0 4)
  else (fed d l, rp0 0)

def rpV (r : Rp) (v : Value) : Value := .agg #[.int .i64 r.code, .int .i64 r.vd.1, .int .i64 r.vd.2.1, .bool r.vd.2.2, v]
/-- what Do leaves. -/
def AnsD (base : Nat) (w : World) (b : Nat) (o : Option Nat) (d' : DS) (r : Rp) (e : Ending) (w' : World) : Prop :=
  (∃ v, e = .returned (rpV r v) ∧ w'.ownsRow w.heap.size 3 1 v r.out.length (ints r.out)) ∧ (∃ o', Det base w' b o' d' ∧ Moved w o o') ∧ Keep w w' b o

theorem own_form {w : World} {base : Nat} {e : TypeId} {s n : Nat} {v : Value} {xs : List Value} (h : w.ownsRow base e s v n xs) : ∃ p cap, v = .slice p n cap := by
  rcases h.2 with ⟨rfl, h0⟩ | ⟨g, cap, cur, rfl, _⟩
  · exact ⟨none, 0, by rw [h0]⟩
  · exact ⟨_, _, rfl⟩
theorem own_far {w : World} {base : Nat} {e : TypeId} {s n : Nat} {v : Value} {xs : List Value} (h : w.ownsRow base e s v n xs) (p : Addr) (hp : v.ownBlock ≠ some p.block) (u : Value) : (w.setCell p u).ownsRow base e s v n xs := by
  refine ⟨h.1, ?_⟩
  rcases h.2 with h0 | ⟨g, cap, cur, hv, hb, hh, hr⟩
  · exact .inl h0
  · refine .inr ⟨g, cap, cur, hv, hb, (Go.Deep.blk_setCell_other w p u g ?_).trans hh, hr⟩
    rintro rfl
    exact hp (by rw [hv]; rfl)
theorem Keep.alloc {w w' : World} {b : Nat} {o : Option Nat} (h : Keep w w' b o) (x : Obj) : Keep w (w'.alloc x) b o :=
  ⟨h.os, h.tape, h.output, Nat.le_trans h.size (by simp), fun i hi hb ho => (Go.Deep.blk_alloc_lt w' x i (Nat.lt_of_lt_of_le hi h.size)).trans (h.block i hi hb ho)⟩
theorem Keep.set {w w' : World} {b : Nat} {o : Option Nat} (h : Keep w w' b o) {p : Addr} (hp : p.block = b ∨ w.heap.size ≤ p.block) (x : Value) : Keep w (w'.setCell p x) b o :=
  ⟨h.os, h.tape, h.output, Nat.le_trans h.size (by simp [World.setCell]), fun i hi hb ho => (Go.Deep.blk_setCell_other w' p x i (by omega)).trans (h.block i hi hb ho)⟩
theorem Keep.bel {w w' w'' : World} {b : Nat} {o : Option Nat} (h : Keep w w' b o) (k : Below w'.heap.size w' w'') : Keep w w'' b o :=
  ⟨k.os.trans h.os, k.tape.trans h.tape, k.output.trans h.output, Nat.le_trans h.size k.size, fun i hi hb ho => (k.block i (Nat.lt_of_lt_of_le hi h.size)).trans (h.block i hi hb ho)⟩

theorem Det.lt {base : Nat} {w : World} {b : Nat} {o : Option Nat} {d : DS} (h : Det base w b o d) : b < w.heap.size := by
  obtain ⟨v, hv, _⟩ := h.mem
  exact (Array.getElem?_eq_some_iff.1 hv).1
theorem Det.apart {base : Nat} {w : World} {b : Nat} {o : Option Nat} {d : DS} (h : Det base w b o d) : o ≠ some b := by
  obtain ⟨v, hv, hown, ho⟩ := h.mem
  rintro rfl
  rcases hown.2 with ⟨rfl, _⟩ | ⟨g, cap, cur, rfl, _, hh, _⟩
  · simp [Value.ownBlock] at ho
  · have : g = b := by simpa [Value.ownBlock] using ho
    subst this
    rw [hv] at hh
    injection hh with hh
    injection hh with _ h2 _
    exact absurd h2 (by decide)
theorem Det.own_lt {base : Nat} {w : World} {b : Nat} {o : Option Nat} {d : DS} (h : Det base w b o d) : ∀ g, o = some g → base ≤ g ∧ g < w.heap.size := by
  obtain ⟨v, hv, hown, ho⟩ := h.mem
  intro g hg
  exact hown.lt g (ho.trans hg)
theorem Det.alloc {base : Nat} {w : World} {b : Nat} {o : Option Nat} {d : DS} (h : Det base w b o d) (x : Obj) : Det base (w.alloc x) b o d := by
  obtain ⟨v, hv, hown, ho⟩ := h.mem
  exact ⟨h.low, v, (Go.Deep.blk_alloc_lt w x b h.lt).trans hv, hown.alloc x, ho⟩
theorem Det.drewN {base : Nat} {w : World} {b : Nat} {o : Option Nat} {d : DS} (h : Det base w b o d) (n : Nat) : Det base (w.drewN n) b o d := ⟨h.low, h.mem⟩
theorem Keep.drewN {w w' : World} {b : Nat} {o : Option Nat} (h : Keep w w' b o) (n : Nat) : Keep w (w'.drewN n) b o := ⟨h.os, h.tape, h.output, h.size, h.block⟩
/-- the tables lie below the call's own blocks. -/
structure Gb (base : Nat) : Prop where
  g0 : 0 < base
  g1 : 1 < base
theorem Gl.keep {base : Nat} {w w' : World} {b : Nat} {o : Option Nat} {d : DS} (h : Gl w) (hb : Gb base) (hd : Det base w b o d) (hk : Keep w w' b o) : Gl w' := by
  have hl := hd.low
  have ho := hd.own_lt
  have hg0 := hb.g0
  have hg1 := hb.g1
  have b0 := lt_of_cell h.m0
  have b1 := lt_of_cell h.e0
  have k0 : ∀ j, w'.cell? ⟨0, j, none⟩ = w.cell? ⟨0, j, none⟩ := fun j => hk.cell (p := ⟨0, j, none⟩) b0 (fun e => by dsimp only at e; omega) (fun e => by have := (ho _ e.symm).1; dsimp only at this; omega)
  have k1 : ∀ j, w'.cell? ⟨1, j, none⟩ = w.cell? ⟨1, j, none⟩ := fun j => hk.cell (p := ⟨1, j, none⟩) b1 (fun e => by dsimp only at e; omega) (fun e => by have := (ho _ e.symm).1; dsimp only at this; omega)
  exact ⟨(k0 _).trans h.m0, (k0 _).trans h.m1, (k0 _).trans h.m2, (k0 _).trans h.m3, (k1 _).trans h.e0, (k1 _).trans h.e1, (k1 _).trans h.e2, (k1 _).trans h.e3⟩
theorem Det.below {base B : Nat} {w w' : World} {b : Nat} {o : Option Nat} {d : DS} (h : Det base w b o d) (hb : Below B w w') (hB : w.heap.size ≤ B) : Det base w' b o d := by
  have hl := h.lt
  obtain ⟨v, hv, hown, ho⟩ := h.mem
  exact ⟨h.low, v, (hb.block b (by omega)).trans hv, own_below hown hb hB, ho⟩
theorem Det.far {base : Nat} {w : World} {b : Nat} {o : Option Nat} {d : DS} (h : Det base w b o d) {p : Addr} (hp : p.block ≠ b) (hp2 : o ≠ some p.block) (x : Value) : Det base (w.setCell p x) b o d := by
  obtain ⟨v, hv, hown, ho⟩ := h.mem
  refine ⟨h.low, v, (Go.Deep.blk_setCell_other w p x b (Ne.symm hp)).trans hv, ⟨hown.1, ?_⟩, ho⟩
  rcases hown.2 with h0 | ⟨g, cap, cur, hg, hb, hh, hr⟩
  · exact .inl h0
  · refine .inr ⟨g, cap, cur, hg, hb, (Go.Deep.blk_setCell_other w p x g ?_).trans hh, hr⟩
    rintro rfl
    exact hp2 (ho.symm.trans (by rw [hg]; rfl))
theorem Det.set {base : Nat} {w : World} {b : Nat} {o : Option Nat} {d d' : DS} (h : Det base w b o d) (k : Nat) (x : Value) (hd : ∀ v, (detCells d v).setIfInBounds k x = detCells d' v) (hbs : d'.bs = d.bs) : Det base (w.setCell ⟨b, k, none⟩ x) b o d' := by
  have hap := h.apart
  obtain ⟨v, hv, hown, ho⟩ := h.mem
  refine ⟨h.low, v, ?_, ⟨?_, ?_⟩, ho⟩
  · rw [row_setCell hv, hd]
  · rw [hbs]
    exact hown.1
  · rw [hbs]
    rcases hown.2 with h0 | ⟨g, cap, cur, hg, hb, hh, hr⟩
    · exact .inl h0
    · refine .inr ⟨g, cap, cur, hg, hb, (Go.Deep.blk_setCell_other w _ x g ?_).trans hh, hr⟩
      rintro rfl
      exact hap (ho.symm.trans (by rw [hg]; rfl))

set_option maxRecDepth 100000 in
set_option maxHeartbeats 4000000 in
theorem do_full (base b : Nat) (o : Option Nat) (d : DS) (k : Int) (bs : ByteArray) (w : World) (hdet : Det base w b o d) (ha : 300 ≤ d.acts) :
    Calls Tryd.prog 24 #[.pointer (some ⟨b, 0, none⟩), .agg #[.int .i64 k, .string bs]] w fun e w' => AnsD base w b o d (rp0 5) e w' := by
  have HDet := Lib.hid hdet
  have hb : b < w.heap.size := hdet.lt
  obtain ⟨v, hblk, _, _⟩ := hdet.mem
  have hc := fun k => cell_of_row w b k _ _ _ hblk
  have c18 : w.cell? ⟨b, 18, none⟩ = some (.int .i64 d.acts) := hc 18
  clear hc hblk hdet
  go_enter Tryd.func24, Tryd.ntmps24
  go_wp2_with fail
  refine bodyPost_ret (by simp [results, Tryd.results24, go_sem]; rfl) rfl ?_
  refine ⟨⟨_, rfl, World.ownsRow_nil _ _ _ _⟩, ⟨o, ?_, .inl rfl⟩, ?_⟩
  · exact (HDet.out.alloc _).alloc _
  · exact ((Keep.refl w b o).alloc _).alloc _
end Go.Proofs.YtefohnbmifblkaaDoor

/-
  score.Step as the plain function scNext says it.
-/
namespace Go.Proofs.YtefohnbmifblkaaDoor
open Go.RowKit

/-- the scores behind n bytes. -/
def ScB (n : Int) (sc : Nat → Int) : Prop := ∀ e : Nat, 1 ≤ e → e ≤ 6 → 0 ≤ sc (2 * e) ∧ sc (2 * e) ≤ 9 ∧ -8 * n ≤ sc (2 * e + 1) ∧ sc (2 * e + 1) ≤ 8 * n
theorem ScB.next {n : Int} {sc : Nat → Int} (h : ScB n sc) (_hn : 0 ≤ n) (last b : Int) : ScB (n + 1) (scNext sc last b) := by
  intro e h1 h2
  obtain ⟨a0, a1, a2, a3⟩ := h e h1 h2
  have r := Pl.aStep_range ((2 * e / 2 : Nat) : Int) (sc (2 * e)) b
  have w := Pl.wgt_range (((2 * e + 1) / 2 : Nat) : Int) last b (Pl.cls last) (Pl.cls b)
  have e1 : scNext sc last b (2 * e) = Pl.aStep ((2 * e / 2 : Nat) : Int) (sc (2 * e)) b := by
    unfold scNext
    rw [if_neg (by omega), if_pos (by omega)]
  have e2 : scNext sc last b (2 * e + 1) = if last < 0 then sc (2 * e + 1) else sc (2 * e + 1) + Pl.weight (((2 * e + 1) / 2 : Nat) : Int) last b := by
    unfold scNext
    rw [if_neg (by omega), if_neg (by omega)]
  rw [e1, e2]
  refine ⟨r.1, r.2, ?_, ?_⟩
  · split
    · omega
    · unfold Pl.weight
      omega
  · split
    · omega
    · unfold Pl.weight
      omega

theorem sNext_any (sc : Nat → Int) (last b n : Int) (w : World) (hs : ScB n sc) (hn0 : 0 ≤ n) (hn : n ≤ 4000) (hl0 : -1 ≤ last) (hl1 : last ≤ 255) (hb0 : 0 ≤ b) (hb1 : b ≤ 255) :
    Calls Tryd.prog 48 #[.agg #[.int .i64 (sc 0), .int .i64 (sc 1), .int .i64 (sc 2), .int .i64 (sc 3), .int .i64 (sc 4), .int .i64 (sc 5), .int .i64 (sc 6), .int .i64 (sc 7), .int .i64 (sc 8), .int .i64 (sc 9), .int .i64 (sc 10), .int .i64 (sc 11), .int .i64 (sc 12), .int .i64 (sc 13)], .int .i64 last, .int .i64 b] w fun e w' => e = .returned (.agg #[.int .i64 (scNext sc last b 0), .int .i64 (scNext sc last b 1), .int .i64 (scNext sc last b 2), .int .i64 (scNext sc last b 3), .int .i64 (scNext sc last b 4), .int .i64 (scNext sc last b 5), .int .i64 (scNext sc last b 6), .int .i64 (scNext sc last b 7), .int .i64 (scNext sc last b 8), .int .i64 (scNext sc last b 9), .int .i64 (scNext sc last b 10), .int .i64 (scNext sc last b 11), .int .i64 (scNext sc last b 12), .int .i64 (scNext sc last b 13)]) ∧ Below w.heap.size w w' := by
  by_cases h : last = -1
  · subst h
    have := sStep_first (sc 0) (sc 1) (sc 2) (sc 3) (sc 4) (sc 5) (sc 6) (sc 7) (sc 8) (sc 9) (sc 10) (sc 11) (sc 12) (sc 13) b w hb0 hb1 (Lib.hid ⟨(hs 1 (by omega) (by omega)).1, (hs 1 (by omega) (by omega)).2.1⟩) (Lib.hid ⟨(hs 2 (by omega) (by omega)).1, (hs 2 (by omega) (by omega)).2.1⟩) (Lib.hid ⟨(hs 3 (by omega) (by omega)).1, (hs 3 (by omega) (by omega)).2.1⟩) (Lib.hid ⟨(hs 4 (by omega) (by omega)).1, (hs 4 (by omega) (by omega)).2.1⟩) (Lib.hid ⟨(hs 5 (by omega) (by omega)).1, (hs 5 (by omega) (by omega)).2.1⟩) (Lib.hid ⟨(hs 6 (by omega) (by omega)).1, (hs 6 (by omega) (by omega)).2.1⟩)
    exact this
  · have := sStep_later (sc 0) (sc 1) (sc 2) (sc 3) (sc 4) (sc 5) (sc 6) (sc 7) (sc 8) (sc 9) (sc 10) (sc 11) (sc 12) (sc 13) last b w (by omega) hl1 hb0 hb1 (Lib.hid ⟨(hs 1 (by omega) (by omega)).1, (hs 1 (by omega) (by omega)).2.1⟩) (Lib.hid ⟨(hs 2 (by omega) (by omega)).1, (hs 2 (by omega) (by omega)).2.1⟩) (Lib.hid ⟨(hs 3 (by omega) (by omega)).1, (hs 3 (by omega) (by omega)).2.1⟩) (Lib.hid ⟨(hs 4 (by omega) (by omega)).1, (hs 4 (by omega) (by omega)).2.1⟩) (Lib.hid ⟨(hs 5 (by omega) (by omega)).1, (hs 5 (by omega) (by omega)).2.1⟩) (Lib.hid ⟨(hs 6 (by omega) (by omega)).1, (hs 6 (by omega) (by omega)).2.1⟩) (Lib.hid ⟨by have : -8 * n ≤ sc 3 := (hs 1 (by omega) (by omega)).2.2.1; omega, by have : sc 3 ≤ 8 * n := (hs 1 (by omega) (by omega)).2.2.2; omega⟩) (Lib.hid ⟨by have : -8 * n ≤ sc 5 := (hs 2 (by omega) (by omega)).2.2.1; omega, by have : sc 5 ≤ 8 * n := (hs 2 (by omega) (by omega)).2.2.2; omega⟩) (Lib.hid ⟨by have : -8 * n ≤ sc 7 := (hs 3 (by omega) (by omega)).2.2.1; omega, by have : sc 7 ≤ 8 * n := (hs 3 (by omega) (by omega)).2.2.2; omega⟩) (Lib.hid ⟨by have : -8 * n ≤ sc 9 := (hs 4 (by omega) (by omega)).2.2.1; omega, by have : sc 9 ≤ 8 * n := (hs 4 (by omega) (by omega)).2.2.2; omega⟩) (Lib.hid ⟨by have : -8 * n ≤ sc 11 := (hs 5 (by omega) (by omega)).2.2.1; omega, by have : sc 11 ≤ 8 * n := (hs 5 (by omega) (by omega)).2.2.2; omega⟩) (Lib.hid ⟨by have : -8 * n ≤ sc 13 := (hs 6 (by omega) (by omega)).2.2.1; omega, by have : sc 13 ≤ 8 * n := (hs 6 (by omega) (by omega)).2.2.2; omega⟩)
    have hlt : ¬ last < 0 := by omega
    simpa [scNext, hlt] using this
end Go.Proofs.YtefohnbmifblkaaDoor

/-
  detect.Do at the acts that are refused.
-/
namespace Go.Proofs.YtefohnbmifblkaaDoor
open Go.RowKit

set_option maxRecDepth 100000 in
set_option maxHeartbeats 4000000 in
theorem do_kind (base b : Nat) (o : Option Nat) (d : DS) (k : Int) (bs : ByteArray) (w : World) (hdet : Det base w b o d) (ha0 : 0 ≤ d.acts) (ha : d.acts < 300) (hk : k < 1 ∨ 3 < k) :
    Calls Tryd.prog 24 #[.pointer (some ⟨b, 0, none⟩), .agg #[.int .i64 k, .string bs]] w fun e w' => AnsD base w b o (tick d) (rp0 2) e w' := by
  have HDet := Lib.hid hdet
  have hb : b < w.heap.size := hdet.lt
  have hap := hdet.apart
  have hno : o ≠ some (w.heap.size + 1) := fun e => by have := (hdet.own_lt _ e).2; omega
  obtain ⟨v, hblk, hown, hvo⟩ := hdet.mem
  have hc := fun k => cell_of_row w b k _ _ _ hblk
  have hfz : ∀ k, w.frozen? ⟨b, k, none⟩ = false := fun _ => by unfold World.frozen?; simp [hblk]
  have c18 : w.cell? ⟨b, 18, none⟩ = some (.int .i64 d.acts) := hc 18
  clear hc hblk hdet hown hvo
  go_enter Tryd.func24, Tryd.ntmps24
  go_wp2_with fail
  all_goals
    refine bodyPost_ret (by simp [results, Tryd.results24, go_sem]; rfl) rfl ?_
    refine ⟨⟨_, rfl, World.ownsRow_nil _ _ _ _⟩, ⟨o, ?_, .inl rfl⟩, ?_⟩
    · exact ((Det.set (d' := tick d) HDet.out 18 _ (fun _ => rfl) rfl).alloc _).alloc _
    · exact (((Keep.refl w b o).set (.inl rfl) _).alloc _).alloc _

set_option maxRecDepth 100000 in
set_option maxHeartbeats 4000000 in
theorem do_ended (base b : Nat) (o : Option Nat) (d : DS) (k : Int) (bs : ByteArray) (w : World) (hdet : Det base w b o d) (ha0 : 0 ≤ d.acts) (ha : d.acts < 300) (hk0 : 1 ≤ k) (hk1 : k ≤ 3) (hk2 : ¬ k = 2) (he : d.ended = true) :
    Calls Tryd.prog 24 #[.pointer (some ⟨b, 0, none⟩), .agg #[.int .i64 k, .string bs]] w fun e w' => AnsD base w b o (tick d) (rp0 3) e w' := by
  have HDet := Lib.hid hdet
  have hb : b < w.heap.size := hdet.lt
  have hap := hdet.apart
  have hno : o ≠ some (w.heap.size + 1) := fun e => by have := (hdet.own_lt _ e).2; omega
  obtain ⟨v, hblk, hown, hvo⟩ := hdet.mem
  have hc := fun k => cell_of_row w b k _ _ _ hblk
  have hfz : ∀ k, w.frozen? ⟨b, k, none⟩ = false := fun _ => by unfold World.frozen?; simp [hblk]
  have c18 : w.cell? ⟨b, 18, none⟩ = some (.int .i64 d.acts) := hc 18
  have c17 : w.cell? ⟨b, 17, none⟩ = some (.bool d.ended) := hc 17
  rw [he] at c17
  clear hc hblk hdet hown hvo
  go_enter Tryd.func24, Tryd.ntmps24
  go_wp2_with fail
  all_goals
    refine bodyPost_ret (by simp [results, Tryd.results24, go_sem]; rfl) rfl ?_
    refine ⟨⟨_, rfl, World.ownsRow_nil _ _ _ _⟩, ⟨o, ?_, .inl rfl⟩, ?_⟩
    · exact ((Det.set (d' := tick d) HDet.out 18 _ (fun _ => rfl) rfl).alloc _).alloc _
    · exact (((Keep.refl w b o).set (.inl rfl) _).alloc _).alloc _

set_option maxRecDepth 100000 in
set_option maxHeartbeats 4000000 in
theorem do_long (base b : Nat) (o : Option Nat) (d : DS) (k : Int) (bs : ByteArray) (w : World) (hdet : Det base w b o d) (ha0 : 0 ≤ d.acts) (ha : d.acts < 300) (hk : k = 1) (he : d.ended = false) (hl0 : d.bs.length ≤ 4000) (_hs0 : bs.size ≤ maxLen) (hl1 : 4000 < d.bs.length + bs.size) :
    Calls Tryd.prog 24 #[.pointer (some ⟨b, 0, none⟩), .agg #[.int .i64 k, .string bs]] w fun e w' => AnsD base w b o (tick d) (rp0 4) e w' := by
  have HDet := Lib.hid hdet
  have hb : b < w.heap.size := hdet.lt
  have hap := hdet.apart
  have hno : o ≠ some (w.heap.size + 1) := fun e => by have := (hdet.own_lt _ e).2; omega
  obtain ⟨v, hblk, hown, hvo⟩ := hdet.mem
  have hc := fun k => cell_of_row w b k _ _ _ hblk
  have hfz : ∀ k, w.frozen? ⟨b, k, none⟩ = false := fun _ => by unfold World.frozen?; simp [hblk]
  have c18 : w.cell? ⟨b, 18, none⟩ = some (.int .i64 d.acts) := hc 18
  have c17 : w.cell? ⟨b, 17, none⟩ = some (.bool d.ended) := hc 17
  have c1 : w.cell? ⟨b, 1, none⟩ = some (v) := hc 1
  rw [he] at c17
  obtain ⟨p, cap, rfl⟩ : ∃ p cap, v = .slice p d.bs.length cap := by
    rcases hown.2 with ⟨rfl, h0⟩ | ⟨g, cap, cur, rfl, _⟩
    · exact ⟨none, 0, by rw [h0]⟩
    · exact ⟨_, _, rfl⟩
  have hl2 : (d.bs.length : Int) ≤ 4000 := by omega
  have hl3 : 4000 - (d.bs.length : Int) < (bs.size : Int) := by omega
  subst hk
  clear hc hblk hdet hown hvo
  go_enter Tryd.func24, Tryd.ntmps24
  go_wp2_with fail
  go_quiet (fail)
  go_wp2_with fail
  refine bodyPost_ret (by simp [results, Tryd.results24, go_sem]; rfl) rfl ?_
  refine ⟨⟨_, rfl, World.ownsRow_nil _ _ _ _⟩, ⟨o, ?_, .inl rfl⟩, ?_⟩
  · repeat (with_reducible refine Det.far ?_ (by simp; omega) (by exact hno) _)
    exact (((Det.set (d' := tick d) HDet.out 18 _ (fun _ => rfl) rfl).alloc _).alloc _).drewN _
  · repeat (with_reducible refine Keep.set ?_ (.inr (by simp)) _)
    exact ((((Keep.refl w b o).set (.inl rfl) _).alloc _).alloc _).drewN _
end Go.Proofs.YtefohnbmifblkaaDoor

/-
  detect.Do at ask.
-/
namespace Go.Proofs.YtefohnbmifblkaaDoor
open Go.RowKit

theorem Det.row {base : Nat} {w : World} {b : Nat} {o : Option Nat} {d : DS} {v : Value} (h : Det base w b o d) (hc : w.cell? ⟨b, 1, none⟩ = some v) : w.ownsRow base 5 1 v d.bs.length (byteVals d.bs) := by
  obtain ⟨u, hu, hown, _⟩ := h.mem
  have h1 : w.cell? ⟨b, 1, none⟩ = some u := cell_of_row w b 1 _ _ _ hu
  rw [h1] at hc
  injection hc with hc
  subst hc
  exact hown

set_option maxRecDepth 100000 in
set_option maxHeartbeats 4000000 in
theorem do_ask (base b : Nat) (o : Option Nat) (d : DS) (bs : ByteArray) (w : World) (hdet : Det base w b o d) (ha0 : 0 ≤ d.acts) (ha : d.acts < 300) (hg : Gl w) (hgb : Gb base) (hl : d.bs.length ≤ 4000) :
    Calls Tryd.prog 24 #[.pointer (some ⟨b, 0, none⟩), .agg #[.int .i64 2, .string bs]] w fun e w' => AnsD base w b o (tick d) ⟨0, vd (tick d), []⟩ e w' := by
  have HDet := Lib.hid hdet
  have hb : b < w.heap.size := hdet.lt
  have hap := hdet.apart
  have hno : o ≠ some (w.heap.size + 1) := fun e => by have := (hdet.own_lt _ e).2; omega
  obtain ⟨v, hblk, hown, hvo⟩ := hdet.mem
  have hc := fun k => cell_of_row w b k _ _ _ hblk
  have hfz : ∀ k, w.frozen? ⟨b, k, none⟩ = false := fun _ => by unfold World.frozen?; simp [hblk]
  have c18 : w.cell? ⟨b, 18, none⟩ = some (.int .i64 d.acts) := hc 18
  have HG := Lib.hid hg
  clear hg
  clear hc hblk hdet hown hvo
  go_enter Tryd.func24, Tryd.ntmps24
  go_wp2_with fail
  have hD := ((Det.set (d' := tick d) HDet.out 18 (.int .i64 (d.acts + 1)) (fun _ => rfl) rfl).alloc (.cells #[.int .i64 2, .string bs] 30)).alloc (.cells #[.int .i64 0, .int .i64 0, .int .i64 0, .bool false, .slice none 0 0] 38)
  have hK := (((Keep.refl w b o).set (.inl rfl) (.int .i64 (d.acts + 1)) : Keep w (w.setCell ⟨b, 18, none⟩ _) b o).alloc (.cells #[.int .i64 2, .string bs] 30)).alloc (.cells #[.int .i64 0, .int .i64 0, .int .i64 0, .bool false, .slice none 0 0] 38)
  have hG := HG.out.keep hgb HDet.out hK
  refine (verdict_any base b o (tick d) _ hD hG hl).mono ?_
  rintro e w1 ⟨rfl, hb1⟩
  have hR : (∀ k, w1.cell? ⟨w.heap.size + 1, k, none⟩ = (#[.int .i64 0, .int .i64 0, .int .i64 0, .bool false, .slice none 0 0] : Array Value)[k]?) ∧ (∀ k, w1.frozen? ⟨w.heap.size + 1, k, none⟩ = false) := alloc_cells (heap_at (by simp [World.setCell])) hb1
  obtain ⟨fx, fz⟩ := hR
  have HD1 := Lib.hid (hD.below hb1 (Nat.le_refl _))
  have HK1 := Lib.hid (hK.bel hb1)
  clear hD hK hG hb1
  go_wp2_with fail
  refine bodyPost_ret (by simp [results, Tryd.results24, go_sem, fx]; rfl) rfl ?_
  refine ⟨⟨_, rfl, World.ownsRow_nil _ _ _ _⟩, ⟨o, ?_, .inl rfl⟩, ?_⟩
  · repeat (with_reducible refine Det.far ?_ (by simp; omega) (by exact hno) _)
    exact HD1.out
  · repeat (with_reducible refine Keep.set ?_ (.inr (by simp)) _)
    exact HK1.out
end Go.Proofs.YtefohnbmifblkaaDoor
