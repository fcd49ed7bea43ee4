/-
  Small words on memory that the walks share: some draws and nothing else; a block that begins with given bytes; the two conversions between a string and a slice of bytes.
-/
import Derived.WalkKit
import Derived.WalkSpells
import Derived.WalkLawsBesides
import Derived.Lib.Hide
import Derived.IntWalk
import Derived.Deep.QuietTactic
import Derived.BigQuiet
import Derived.Lib.Strings
import Derived.Lib.IndexBytes
import Derived.Lib.ConvBytes
import Derived.Laws.IdiomStrings
import Derived.Lib.SmallJoins
import Derived.Deep.DeepFit
import Derived.Test.YtefohnbmifblkaaDoorRows
namespace Go.Proofs.YtefohnbmifblkaaDoor
open Go.RowKit

theorem ret_int {k : IntKind} {a b : Int} (h : a = b) : Ending.returned (.int k a) = .returned (.int k b) := by rw [h]

theorem ret_str {a b : List UInt8} (h : a = b) : Ending.returned (.string ⟨a.toArray⟩) = .returned (.string ⟨b.toArray⟩) := by rw [h]
theorem ret_bool {a b : Bool} (h : a = b) : Ending.returned (.bool a) = .returned (.bool b) := by rw [h]

/-- some draws, nothing else. -/
def Drew (w w' : World) : Prop := ∃ n, w' = w.drewN n
theorem Drew.refl (w : World) : Drew w w := ⟨0, rfl⟩
theorem Drew.drewN {w w' : World} (h : Drew w w') (n : Nat) : Drew w (w'.drewN n) := by
  obtain ⟨m, rfl⟩ := h
  exact ⟨m + n, World.drewN_drewN ..⟩
theorem Drew.drew {w w' : World} (h : Drew w w') : Drew w w'.drew := h.drewN 1
theorem Drew.trans {w w' w'' : World} (h : Drew w w') (k : Drew w' w'') : Drew w w'' := by
  obtain ⟨m, rfl⟩ := k
  exact h.drewN m
theorem below_drewN {B : Nat} {a w : World} (h : Below B a w) (n : Nat) : Below B a (w.drewN n) := ⟨h.os, h.tape, h.output, h.size, h.block⟩
theorem Drew.below {w w' : World} {B : Nat} (h : Drew w w') : Below B w w' := by
  obtain ⟨m, rfl⟩ := h
  exact below_drewN (Below.refl B w) m
theorem bthen {a b c : World} (h : Below a.heap.size a b) (k : Below b.heap.size b c) : Below a.heap.size a c := h.trans (k.mono h.size)
theorem Drew.eq {w w' : World} (h : w = w') : Drew w w' := h ▸ Drew.refl w
theorem Drew.heap {w w' : World} (h : Drew w w') : w'.heap = w.heap := by
  obtain ⟨m, rfl⟩ := h
  rfl
theorem Drew.cell {w w' : World} (h : Drew w w') (a : Addr) : w'.cell? a = w.cell? a := by
  obtain ⟨m, rfl⟩ := h
  rfl
theorem quiet_drew {P : Program} {f : FuncId} {args : Array Value} {w : World} {n : Nat} {v : Value}
    (h : Calls P f args (w.drewN n) fun e w' => e = .returned v ∧ Drew (w.drewN n) w') : Calls P f args (w.drewN n) fun e w'' => e = .returned v ∧ ∃ m, w'' = w.drewN m :=
  h.mono fun _ _ ⟨he, m, hm⟩ => ⟨he, n + m, by rw [hm, World.drewN_drewN]⟩
/-- a quiet callee's contract that has the caller's world on the left. -/
theorem quiet_left {P : Program} {f : FuncId} {args : Array Value} {w : World} {n : Nat} {v : Value}
    (h : Calls P f args (w.drewN n) fun e w' => e = .returned v ∧ w.drewN n = w') : Calls P f args (w.drewN n) fun e w'' => e = .returned v ∧ ∃ m, w'' = w.drewN m :=
  h.mono fun _ _ ⟨he, hm⟩ => ⟨he, n, hm.symm⟩

theorem bcell {B : Nat} {W w1 : World} (hb : Below B W w1) : (∀ b o, b < B → w1.cell? ⟨b, o, none⟩ = W.cell? ⟨b, o, none⟩) ∧ (∀ b o, b < B → w1.frozen? ⟨b, o, none⟩ = W.frozen? ⟨b, o, none⟩) :=
  ⟨fun b o h => hb.cell (p := ⟨b, o, none⟩) h, fun b o h => hb.frozen (p := ⟨b, o, none⟩) h⟩
theorem lt_of_cell {w : World} {b o : Nat} {v : Value} (h : w.cell? ⟨b, o, none⟩ = some v) : b < w.heap.size := by
  rcases Nat.lt_or_ge b w.heap.size with hlt | hge
  · exact hlt
  · unfold World.cell? at h
    rw [Array.getElem?_eq_none hge] at h
    cases h

/-- Block g begins with the bytes l, and these may be written. -/
def BRow (w : World) (g : Nat) (l : List UInt8) : Prop := ∀ j b, l[j]? = some b → w.cell? ⟨g, j, none⟩ = some (.int .u8 (b.toNat : Int)) ∧ w.frozen? ⟨g, j, none⟩ = false
theorem BRow.at_ {w : World} {g : Nat} {l : List UInt8} (h : BRow w g l) (j : Nat) (hj : j < l.length) : w.cell? ⟨g, j, none⟩ = some (.int .u8 (l[j].toNat : Int)) ∧ w.frozen? ⟨g, j, none⟩ = false :=
  h j _ (List.getElem?_eq_getElem hj)
theorem BRow.below {w w' : World} {B g : Nat} {l : List UInt8} (h : BRow w g l) (hb : Below B w w') (hg : g < B) : BRow w' g l :=
  fun j b hj => ⟨(hb.cell (p := ⟨g, j, none⟩) hg).trans (h j b hj).1, (hb.frozen (p := ⟨g, j, none⟩) hg).trans (h j b hj).2⟩
theorem BRow.drewN {w : World} {g : Nat} {l : List UInt8} (h : BRow w g l) (n : Nat) : BRow (w.drewN n) g l := h
theorem BRow.drew {w : World} {g : Nat} {l : List UInt8} (h : BRow w g l) : BRow w.drew g l := h
theorem BRow.set_ {w : World} {g : Nat} {l : List UInt8} (h : BRow w g l) (k : Nat) (c : UInt8) (hk : k < l.length) : BRow (w.setCell ⟨g, k, none⟩ (.int .u8 (c.toNat : Int))) g (l.set k c) := by
  intro j b hj
  refine ⟨?_, ?_⟩
  · rcases Nat.decEq j k with hjk | rfl
    · rw [World.cell?_setCell_other _ _ _ _ (fun e => hjk (by injection e with _ e _; exact e.symm))]
      rw [List.getElem?_set_ne (fun e => hjk e.symm)] at hj
      exact (h j b hj).1
    · rw [List.getElem?_set_self hk] at hj
      injection hj with hj
      subst hj
      exact World.cell?_setCell_same _ _ _ (h.at_ j hk).1
  · rw [World.frozen?_setCell]
    rcases Nat.decEq j k with hjk | rfl
    · rw [List.getElem?_set_ne (fun e => hjk e.symm)] at hj
      exact (h j b hj).2
    · exact (h.at_ j hk).2
theorem BRow.far {w : World} {g : Nat} {l : List UInt8} (h : BRow w g l) {p : Addr} (hp : g ≠ p.block) (v : Value) : BRow (w.setCell p v) g l := by
  intro j b hj
  rw [World.frozen?_setCell, World.cell?_setCell_other _ _ _ _ (fun e => hp (by rw [e]))]
  exact h j b hj

theorem conv_bytes {P : Program} {src dst e : TypeId} {u : TypeDesc} (hs : P.underlying src = some u) (hd : P.underlying dst = some (.slice e)) (he : P.underlying e = some (.int .u8)) (s : ByteArray) (w : World) :
    ∃ cap w1, (convert src dst (.string s)).run P w = .ok (.slice (some ⟨w.heap.size, 0, none⟩) s.size cap) w1 ∧ BRow w1 w.heap.size s.data.toList ∧ Below w.heap.size w w1 ∧ w.heap.size < w1.heap.size := by
  refine ⟨_, _, Lib.run_convert_string_bytes w src dst e s hs hd he, fun j b hj => ?_, ⟨?_, ?_, ?_, ?_, fun k hk => Lib.bytesWorld_at_old w e s k hk⟩, ?_⟩
  · have hl : j < s.data.toList.length := (List.getElem?_eq_some_iff.1 hj).1
    have hl' : j < s.size := by simpa using hl
    refine ⟨?_, ?_⟩
    · rw [Lib.bytesWorld_cell w e s j hl', List.getD, hj]
      rfl
    · unfold World.frozen?
      rw [Lib.bytesWorld_at_new]
      have : ¬ (Lib.bytesCells w e s).size ≤ j := by
        simp [Lib.bytesCells]
        omega
      simp [this]
  · simp [Lib.bytesWorld, World.freeze, World.alloc, World.drew, -World.alloc_eq, -World.drew_eq]
  · simp [Lib.bytesWorld, World.freeze, World.alloc, World.drew, -World.alloc_eq, -World.drew_eq]
  · simp [Lib.bytesWorld, World.freeze, World.alloc, World.drew, -World.alloc_eq, -World.drew_eq]
  · rw [Lib.bytesWorld_size]; omega
  · rw [Lib.bytesWorld_size]; omega

theorem conv_back {P : Program} {src dst e : TypeId} (hs : P.underlying src = some (.slice e)) (he : P.underlying e = some (.int .u8)) (hd : P.underlying dst = some .string) {w : World} {g n cap : Nat} {l : List UInt8}
    (h : BRow w g l) (hn : n = l.length) : (convert src dst (.slice (some ⟨g, 0, none⟩) n cap)).run P w = .ok (.string ⟨l.toArray⟩) w := by
  subst hn
  refine run_convert_bytes_back w src dst e ⟨g, 0, none⟩ cap l hs he hd fun j hj => ?_
  have e1 : (⟨g, 0, none⟩ : Addr).add j = ⟨g, j, none⟩ := by unfold Addr.add; split <;> simp_all
  rw [e1]
  exact (h.at_ j hj).1
end Go.Proofs.YtefohnbmifblkaaDoor

/-
  The walks of SameNumbers and SameReply (of the references and of the statements of the whole): two lists that hold the same numbers are the same, two replies that hold the same are the same; nothing is changed.
-/
namespace Go.Proofs.YtefohnbmifblkaaDoor
open Go.RowKit

/-- The slice v holds just these numbers; it begins at the head of a block, if it holds any. -/
def Ints (w : World) (v : Value) (xs : List Int) : Prop :=
  ∃ (a : Option Addr) (c : Nat), v = .slice a xs.length c ∧ (xs = [] ∨ ∃ g : Nat, a = some ⟨g, 0, none⟩ ∧ ∀ (j : Nat) (x : Int), xs[j]? = some x → w.cell? ⟨g, j, none⟩ = some (.int .i64 x))
theorem Ints.nil (w : World) : Ints w (.slice none 0 0) [] := ⟨none, 0, rfl, .inl rfl⟩
theorem Ints.below {w w' : World} {v : Value} {xs : List Int} (h : Ints w v xs) (hb : Below w.heap.size w w') : Ints w' v xs := by
  obtain ⟨a, c, rfl, h⟩ := h
  refine ⟨a, c, rfl, ?_⟩
  rcases h with h | ⟨g, rfl, h⟩
  · exact .inl h
  · exact .inr ⟨g, rfl, fun j x hj => (hb.cell (p := ⟨g, j, none⟩) (lt_of_cell (h j x hj))).trans (h j x hj)⟩
theorem two_new (w : World) (o o' : Obj) : Below w.heap.size w ((w.alloc o).alloc o') := ((Below.refl _ _).alloc (Nat.le_refl _) _).alloc (by simp) _

set_option maxHeartbeats 1000000 in
theorem topSame_any (w : World) (v u : Value) (xs : List Int) (hl : xs.length ≤ maxLen) (hv : Ints w v xs) (hu : Ints w u xs) :
    Calls Tryd.prog 40 #[v, u] w fun e w' => e = .returned (.bool true) ∧ Drew w w' := by
  unfold maxLen at hl
  obtain ⟨a, c, rfl, hv⟩ := hv
  obtain ⟨a', c', rfl, hu⟩ := hu
  have hnn : ((xs.length : Int) != (xs.length : Int)) = false := by simp
  go_enter Tryd.func40, Tryd.ntmps40
  go_wp2
  go_loopw [13] (fun i wr => Drew w wr ∧ ∃ k : Nat, k ≤ xs.length ∧ i = .int .i64 k) (fun i _ => xs.length - (intOf i).toNat)
  case atStart => exact ⟨Drew.refl _, 0, by omega, rfl⟩
  case round =>
    obtain ⟨hd, k, hk, rfl⟩ := hrel
    by_cases hlt : k < xs.length
    · rcases hv with rfl | ⟨g, rfl, hv⟩
      · simp at hlt
      · rcases hu with rfl | ⟨g', rfl, hu⟩
        · simp at hlt
        · obtain ⟨x, hx⟩ : ∃ x, xs[k]? = some x := ⟨_, List.getElem?_eq_getElem hlt⟩
          have c1 := (hd.cell _).trans (hv k x hx)
          have c2 := (hd.cell _).trans (hu k x hx)
          clear hv hu hx
          have hxx : (x != x) = false := by simp
          have hki : (k : Int) < (xs.length : Int) := by omega
          go_wp2
          go_quiet (fail)
          go_wp2
          go_roundw
          case rel => exact ⟨hd.drewN _, k + 1, by omega, by go_num⟩
          case measure => simp [intOf]; omega
    · go_wp2
      go_ret
      exact ⟨rfl, hd⟩

set_option maxHeartbeats 1000000 in
theorem topSameReply_any (w : World) (code e b : Int) (f : Bool) (v u : Value) (xs : List Int) (hl : xs.length ≤ maxLen) (hv : Ints w v xs) (hu : Ints w u xs) :
    Calls Tryd.prog 28 #[.agg #[.int .i64 code, .int .i64 e, .int .i64 b, .bool f, v], .agg #[.int .i64 code, .int .i64 e, .int .i64 b, .bool f, u]] w fun e w' => e = .returned (.bool true) ∧ Below w.heap.size w w' := by
  have HV := Lib.hid hv
  have HU := Lib.hid hu
  have HL := Lib.hid hl
  obtain ⟨a, c, hv', _⟩ := hv
  obtain ⟨a', c', hu', _⟩ := hu
  subst hv' hu'
  clear hl
  go_enter Tryd.func28, Tryd.ntmps28
  go_wp2_with fail
  refine (topSame_any _ _ _ xs HL.out (HV.out.below (two_new _ _ _)) (HU.out.below (two_new _ _ _))).mono ?_
  rintro e w1 ⟨rfl, hd1⟩
  go_wp2
  go_ret
  exact ⟨rfl, (two_new _ _ _).trans hd1.below⟩

set_option maxHeartbeats 1000000 in
theorem refSame_any (w : World) (v u : Value) (xs : List Int) (hl : xs.length ≤ maxLen) (hv : Ints w v xs) (hu : Ints w u xs) :
    Calls Tryd.prog 37 #[v, u] w fun e w' => e = .returned (.bool true) ∧ Drew w w' := by
  unfold maxLen at hl
  obtain ⟨a, c, rfl, hv⟩ := hv
  obtain ⟨a', c', rfl, hu⟩ := hu
  have hnn : ((xs.length : Int) != (xs.length : Int)) = false := by simp
  go_enter Tryd.func37, Tryd.ntmps37
  go_wp2
  go_loopw [13] (fun i wr => Drew w wr ∧ ∃ k : Nat, k ≤ xs.length ∧ i = .int .i64 k) (fun i _ => xs.length - (intOf i).toNat)
  case atStart => exact ⟨Drew.refl _, 0, by omega, rfl⟩
  case round =>
    obtain ⟨hd, k, hk, rfl⟩ := hrel
    by_cases hlt : k < xs.length
    · rcases hv with rfl | ⟨g, rfl, hv⟩
      · simp at hlt
      · rcases hu with rfl | ⟨g', rfl, hu⟩
        · simp at hlt
        · obtain ⟨x, hx⟩ : ∃ x, xs[k]? = some x := ⟨_, List.getElem?_eq_getElem hlt⟩
          have c1 := (hd.cell _).trans (hv k x hx)
          have c2 := (hd.cell _).trans (hu k x hx)
          clear hv hu hx
          have hxx : (x != x) = false := by simp
          have hki : (k : Int) < (xs.length : Int) := by omega
          go_wp2
          go_quiet (fail)
          go_wp2
          go_roundw
          case rel => exact ⟨hd.drewN _, k + 1, by omega, by go_num⟩
          case measure => simp [intOf]; omega
    · go_wp2
      go_ret
      exact ⟨rfl, hd⟩

set_option maxHeartbeats 1000000 in
theorem refSameReply_any (w : World) (code e b : Int) (f : Bool) (v u : Value) (xs : List Int) (hl : xs.length ≤ maxLen) (hv : Ints w v xs) (hu : Ints w u xs) :
    Calls Tryd.prog 23 #[.agg #[.int .i64 code, .int .i64 e, .int .i64 b, .bool f, v], .agg #[.int .i64 code, .int .i64 e, .int .i64 b, .bool f, u]] w fun e w' => e = .returned (.bool true) ∧ Below w.heap.size w w' := by
  have HV := Lib.hid hv
  have HU := Lib.hid hu
  have HL := Lib.hid hl
  obtain ⟨a, c, hv', _⟩ := hv
  obtain ⟨a', c', hu', _⟩ := hu
  subst hv' hu'
  clear hl
  go_enter Tryd.func23, Tryd.ntmps23
  go_wp2_with fail
  refine (refSame_any _ _ _ xs HL.out (HV.out.below (two_new _ _ _)) (HU.out.below (two_new _ _ _))).mono ?_
  rintro e w1 ⟨rfl, hd1⟩
  go_wp2
  go_ret
  exact ⟨rfl, (two_new _ _ _).trans hd1.below⟩
end Go.Proofs.YtefohnbmifblkaaDoor
