/-
  A detector in memory: what its block and its bytes' block hold; what a call on it leaves alone.
-/
import Derived.Test.YtefohnbmifblkabDoorSame
import Derived.Test.YtefohnbmifblkabDoorSnF
import Derived.Test.YtefohnbmifblkabDoorSnG
import Derived.Test.YtefohnbmifblkabDoorScA
import Derived.Test.YtefohnbmifblkabDoorScB
namespace Go.Proofs.YtefohnbmifblkabDoor
open Go.RowKit

/-- a detector's fields. -/
structure DS where
  hint : Int
  bs : List UInt8
  sc : Nat → Int
  last : Int
  ended : Bool
  acts : Int

def byteVals (l : List UInt8) : List Value := l.map fun c => .int .u8 (c.toNat : Int)
def detCells (d : DS) (v : Value) : Array Value := #[.int .i64 d.hint, v, .int .i64 (d.sc 0), .int .i64 (d.sc 1), .int .i64 (d.sc 2), .int .i64 (d.sc 3), .int .i64 (d.sc 4), .int .i64 (d.sc 5), .int .i64 (d.sc 6), .int .i64 (d.sc 7), .int .i64 (d.sc 8), .int .i64 (d.sc 9), .int .i64 (d.sc 10), .int .i64 (d.sc 11), .int .i64 (d.sc 12), .int .i64 (d.sc 13), .int .i64 d.last, .bool d.ended, .int .i64 d.acts]

/-- block b is a detector with the fields d; its bytes lie in block o (none: there are none yet). -/
structure Det (base : Nat) (w : World) (b : Nat) (o : Option Nat) (d : DS) : Prop where
  low : base ≤ b
  mem : ∃ v, w.heap[b]? = some (.cells (detCells d v) 56 (0, 0)) ∧ w.ownsRow base 5 1 v d.bs.length (byteVals d.bs) ∧ v.ownBlock = o

/-- nothing that was there has changed but block b and block o. -/
structure Keep (w w' : World) (b : Nat) (o : Option Nat) : Prop where
  os : w'.os = w.os
  tape : w'.tape = w.tape
  output : w'.output = w.output
  size : w.heap.size ≤ w'.heap.size
  block : ∀ i, i < w.heap.size → i ≠ b → some i ≠ o → w'.heap[i]? = w.heap[i]?
theorem Keep.refl (w : World) (b : Nat) (o : Option Nat) : Keep w w b o := ⟨rfl, rfl, rfl, Nat.le_refl _, fun _ _ _ _ => rfl⟩
theorem Keep.of_below {w w' : World} {b : Nat} {o : Option Nat} (h : Below w.heap.size w w') : Keep w w' b o := ⟨h.os, h.tape, h.output, h.size, fun i hi _ _ => h.block i hi⟩
/-- the block of the bytes may be a new one. -/
def Moved (w : World) (o o' : Option Nat) : Prop := o' = o ∨ ∃ n, o' = some n ∧ w.heap.size ≤ n
theorem Keep.trans {w w1 w2 : World} {b : Nat} {o o1 : Option Nat} (h : Keep w w1 b o) (hm : Moved w o o1) (k : Keep w1 w2 b o1) : Keep w w2 b o :=
  ⟨k.os.trans h.os, k.tape.trans h.tape, k.output.trans h.output, Nat.le_trans h.size k.size, fun i hi hb ho => by
    refine (k.block i (Nat.lt_of_lt_of_le hi h.size) hb ?_).trans (h.block i hi hb ho)
    rcases hm with rfl | ⟨n, rfl, hn⟩
    · exact ho
    · intro e
      injection e with e
      omega⟩
theorem Moved.trans {w w1 : World} {o o1 o2 : Option Nat} (hs : w.heap.size ≤ w1.heap.size) (h : Moved w o o1) (k : Moved w1 o1 o2) : Moved w o o2 := by
  rcases k with rfl | ⟨n, rfl, hn⟩
  · exact h
  · exact .inr ⟨n, rfl, by omega⟩
theorem Keep.below {w w' : World} {b base : Nat} {o : Option Nat} (h : Keep w w' b o) (hb : base ≤ b) (ho : ∀ n, o = some n → base ≤ n) (hB : base ≤ w.heap.size) : Below base w w' :=
  ⟨h.os, h.tape, h.output, h.size, fun i hi => h.block i (by omega) (by omega) (fun e => by have := ho i e.symm; omega)⟩
theorem Keep.cell {w w' : World} {b : Nat} {o : Option Nat} (h : Keep w w' b o) {p : Addr} (hp : p.block < w.heap.size) (hb : p.block ≠ b) (ho : some p.block ≠ o) : w'.cell? p = w.cell? p :=
  World.cell?_of_block (h.block p.block hp hb ho)

theorem ownBlock_base {w : World} {base : Nat} {e : TypeId} {size n : Nat} {v : Value} {xs : List Value} (h : w.ownsRow base e size v n xs) : ∀ g, v.ownBlock = some g → base ≤ g ∧ g < w.heap.size := by
  intro g hg
  rcases h.2 with ⟨rfl, _⟩ | ⟨g', cap, cur, rfl, hb, hh, _⟩
  · simp [Value.ownBlock] at hg
  · have : g' = g := by simpa [Value.ownBlock] using hg
    subst this
    refine ⟨by assumption, ?_⟩
    rcases Nat.lt_or_ge g' w.heap.size with h1 | h1
    · exact h1
    · rw [Array.getElem?_eq_none h1] at hh
      cases hh

def newDS (h : Int) : DS := { hint := h, bs := [], sc := fun _ => 0, last := -1, ended := false, acts := 0 }

set_option maxHeartbeats 1000000 in
theorem scoreNew_any (w : World) :
    Calls Tryd.prog 32 #[] w fun e w' => e = .returned (.agg #[.int .i64 0, .int .i64 0, .int .i64 0, .int .i64 0, .int .i64 0, .int .i64 0, .int .i64 0, .int .i64 0, .int .i64 0, .int .i64 0, .int .i64 0, .int .i64 0, .int .i64 0, .int .i64 0]) ∧ Below w.heap.size w w' := by
  go_enter Tryd.func32, Tryd.ntmps32
  go_wp2
  refine bodyPost_ret (v := .agg #[.int .i64 0, .int .i64 0, .int .i64 0, .int .i64 0, .int .i64 0, .int .i64 0, .int .i64 0, .int .i64 0, .int .i64 0, .int .i64 0, .int .i64 0, .int .i64 0, .int .i64 0, .int .i64 0]) (by simp [results, Tryd.results32, go_sem]) rfl ⟨rfl, ?_⟩
  repeat (first | exact Below.refl _ _ | refine Below.alloc ?_ (by simp) _ | refine Below.setCell ?_ (by simp) _)

set_option maxHeartbeats 1000000 in
theorem detNew_any (s : ByteArray) (w : World) (hs : s.size ≤ maxLen) :
    Calls Tryd.prog 22 #[.string s] w fun e w' => (∃ b, e = .returned (.pointer (some ⟨b, 0, none⟩)) ∧ w.heap.size ≤ b ∧ Det w.heap.size w' b none (newDS (Pl.find s.data.toList))) ∧ Below w.heap.size w w' := by
  have HS := Lib.hid hs
  clear hs
  go_enter Tryd.func22, Tryd.ntmps22
  go_wp2_with (first
    | (go_at_call 19; refine (find_any _ _ HS.out).mono ?_; rintro e w1 ⟨rfl, hb1⟩)
    | (go_at_call 32; refine (scoreNew_any _).mono ?_; rintro e w2 ⟨rfl, hb2⟩))
  go_ret
  have hb := bthen hb1 hb2
  refine ⟨⟨w2.heap.size, rfl, hb.size, hb.size, _, heap_alloc_new w2 _, ⟨rfl, .inl ⟨rfl, rfl⟩⟩, rfl⟩, hb.alloc hb.size _⟩
end Go.Proofs.YtefohnbmifblkabDoor
