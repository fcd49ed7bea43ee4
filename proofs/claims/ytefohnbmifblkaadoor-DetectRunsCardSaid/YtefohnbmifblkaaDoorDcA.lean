/-
  The walks of decode's utf and twin, latin.
-/
import Derived.Laws.Bits128
import Derived.Test.YtefohnbmifblkaaDoorPlD
import Derived.Test.YtefohnbmifblkaaDoorMem
import Derived.Test.YtefohnbmifblkaaDoorRows
import Derived.Deep.Heap
import Derived.Deep.Onto
import Derived.Laws.BytesArg
namespace Go.Proofs.YtefohnbmifblkaaDoor
open Go.RowKit
open Pl (St st0 byte)

/-- a state as the program holds it. -/
def stV (s : St) : Value := .agg #[.int .i64 s.need, .int .i64 s.code, .int .i64 s.fr, .int .i64 s.to, .string ⟨s.kept.toArray⟩, .int .i64 s.half, .int .i64 s.mode]
def ints (l : List Int) : List Value := l.map (Value.int .i64)

/-- what the small functions answer: a state, numbers in a slice of their own, and again. -/
def Ans (w : World) (r : St × List Int × Bool) (e : Ending) (w' : World) : Prop :=
  (∃ v, e = .returned (.tuple #[stV r.1, v, .bool r.2.2]) ∧ w'.ownsRow w.heap.size 3 1 v r.2.1.length (ints r.2.1)) ∧ Below w.heap.size w w'

theorem heap_at {w : World} {o : Obj} {n : Nat} (h : w.heap.size = n) : (w.alloc o).heap[n]? = some o := by
  subst h
  exact heap_alloc_new w o
theorem conv_one (c : UInt8) (b : Nat) (hb : c.toNat = b) (w : World) (A B : Array Value) :
    (convert 69 9 (.slice (some ⟨w.heap.size + 1 + 1, 0, none⟩) 1 1)).run Tryd.prog (((w.alloc (.cells A 92)).alloc (.cells B 92)).alloc (.cells #[.int .u8 (b : Int)] 5)) = .ok (.string ⟨#[c]⟩) (((w.alloc (.cells A 92)).alloc (.cells B 92)).alloc (.cells #[.int .u8 (b : Int)] 5)) := by
  refine run_convert_bytes_back _ 69 9 5 ⟨w.heap.size + 1 + 1, 0, none⟩ 1 [c] Tryd.underlying69 Tryd.underlying5 Tryd.underlying9 fun j hj => ?_
  have : j = 0 := by simpa using hj
  subst this
  subst hb
  exact (cell_of_row _ (w.heap.size + 1 + 1) 0 _ _ _ (heap_at (by simp))).trans rfl
theorem str_first (l : UInt8) (k : Nat) (hk : l.toNat = k) (h : 0 < (⟨#[l]⟩ : ByteArray).size) : ((⟨#[l]⟩ : ByteArray)[0]'h).toNat = k := hk
theorem own_one {w : World} {n base : Nat} {x : Int} (hb : base ≤ n) (h : w.heap[n]? = some (.cells #[.int .i64 x] 3 (0, 0))) : w.ownsRow base 3 1 (.slice (some ⟨n, 0, none⟩) 1 1) [x].length (ints [x]) :=
  ⟨rfl, .inr ⟨n, 1, _, rfl, hb, h, Nat.le_refl _, by unfold maxLen; omega, rfl, rfl⟩⟩

theorem and_7 (b : Int) : bits .and .i64 b 7 = b % 8 := by
  have h127 : (BitVec.ofInt 64 7).toNat = 2 ^ 3 - 1 := by decide
  have key : (BitVec.ofInt 64 b &&& BitVec.ofInt 64 7).toNat = (b % ((2 ^ 64 : Nat) : Int)).toNat % 2 ^ 3 := by
    rw [BitVec.toNat_and, BitVec.toNat_ofInt, h127, Nat.and_two_pow_sub_one_eq_mod]
  show IntKind.i64.wrap ((BitVec.ofInt 64 b &&& BitVec.ofInt 64 7).toNat : Nat) = b % 8
  rw [key, IntKind.wrap_i64]
  omega
theorem and_15 (b : Int) : bits .and .i64 b 15 = b % 16 := by
  have h127 : (BitVec.ofInt 64 15).toNat = 2 ^ 4 - 1 := by decide
  have key : (BitVec.ofInt 64 b &&& BitVec.ofInt 64 15).toNat = (b % ((2 ^ 64 : Nat) : Int)).toNat % 2 ^ 4 := by
    rw [BitVec.toNat_and, BitVec.toNat_ofInt, h127, Nat.and_two_pow_sub_one_eq_mod]
  show IntKind.i64.wrap ((BitVec.ofInt 64 b &&& BitVec.ofInt 64 15).toNat : Nat) = b % 16
  rw [key, IntKind.wrap_i64]
  omega
theorem and_31 (b : Int) : bits .and .i64 b 31 = b % 32 := by
  have h127 : (BitVec.ofInt 64 31).toNat = 2 ^ 5 - 1 := by decide
  have key : (BitVec.ofInt 64 b &&& BitVec.ofInt 64 31).toNat = (b % ((2 ^ 64 : Nat) : Int)).toNat % 2 ^ 5 := by
    rw [BitVec.toNat_and, BitVec.toNat_ofInt, h127, Nat.and_two_pow_sub_one_eq_mod]
  show IntKind.i64.wrap ((BitVec.ofInt 64 b &&& BitVec.ofInt 64 31).toNat : Nat) = b % 32
  rw [key, IntKind.wrap_i64]
  omega
theorem and_63 (b : Int) : bits .and .i64 b 63 = b % 64 := by
  have h127 : (BitVec.ofInt 64 63).toNat = 2 ^ 6 - 1 := by decide
  have key : (BitVec.ofInt 64 b &&& BitVec.ofInt 64 63).toNat = (b % ((2 ^ 64 : Nat) : Int)).toNat % 2 ^ 6 := by
    rw [BitVec.toNat_and, BitVec.toNat_ofInt, h127, Nat.and_two_pow_sub_one_eq_mod]
  show IntKind.i64.wrap ((BitVec.ofInt 64 b &&& BitVec.ofInt 64 63).toNat : Nat) = b % 64
  rw [key, IntKind.wrap_i64]
  omega
theorem or_6 (x y : Int) (hx : 0 ≤ x) (hx1 : x < 1000000) (hy : 0 ≤ y) (hy1 : y < 64) : bits .or .i64 (x * 64) y = x * 64 + y :=
  bits_join .i64 40 (by decide) (fun n h0 h1 => by rw [IntKind.wrap_i64]; omega) 6 (x * 64) y (by omega) (by omega) (by omega) hy hy1 (by omega)

theorem ans_nil {w w' : World} {r : St × List Int × Bool} {n cd f t : Int} {k : Array UInt8} {h m : Int} {q : Bool} (hr : r = (⟨n, cd, f, t, k.toList, h, m⟩, [], q)) (hb : Below w.heap.size w w') :
    Ans w r (.returned (.tuple #[.agg #[.int .i64 n, .int .i64 cd, .int .i64 f, .int .i64 t, .string ⟨k⟩, .int .i64 h, .int .i64 m], .slice none 0 0, .bool q])) w' := by
  subst hr
  exact ⟨⟨_, rfl, rfl, .inl ⟨rfl, rfl⟩⟩, hb⟩
theorem ans_one {w w' : World} {r : St × List Int × Bool} {n cd f t x : Int} {k : Array UInt8} {h m : Int} {q : Bool} {g : Nat} (hr : r = (⟨n, cd, f, t, k.toList, h, m⟩, [x], q)) (hg : w.heap.size ≤ g) (hc : w'.heap[g]? = some (.cells #[.int .i64 x] 3 (0, 0))) (hb : Below w.heap.size w w') :
    Ans w r (.returned (.tuple #[.agg #[.int .i64 n, .int .i64 cd, .int .i64 f, .int .i64 t, .string ⟨k⟩, .int .i64 h, .int .i64 m], .slice (some ⟨g, 0, none⟩) 1 1, .bool q])) w' := by
  subst hr
  exact ⟨⟨_, rfl, own_one hg hc⟩, hb⟩

set_option maxRecDepth 100000 in
set_option maxHeartbeats 4000000 in
theorem utf_zero (c : UInt8) (w : World) :
    Calls Tryd.prog 109 #[stV st0, .int .i64 (c.toNat : Int)] w fun e w' => Ans w (Pl.dUtf st0 c) e w' := by
  obtain ⟨b, hb⟩ : ∃ b : Nat, c.toNat = b := ⟨_, rfl⟩
  have hb2 : (b : Int) ≤ 255 := by have := c.toNat_lt; omega
  have HB := Lib.hid hb
  rw [hb]
  clear hb
  unfold stV st0
  go_enter Tryd.func109, Tryd.ntmps109
  go_wp2_with fail
  all_goals
    refine bodyPost_ret (by simp [results, Tryd.results109, go_sem]; rfl) rfl ?_
    first
      | refine ans_nil ?_ ?_
      | refine ans_one ?_ (by omega) (heap_at (by simp)) ?_
    · have hc := HB.out
      simp only [beq_iff_eq, beq_eq_false_iff_ne] at *
      unfold Pl.dUtf byte
      rw [hc]
      dsimp only
      repeat (first | rw [if_neg (by omega)] | rw [if_pos (by omega)])
      try simp only [and_7, and_15, and_31]
    · repeat (first | exact Below.refl _ _ | refine Below.alloc ?_ (by simp; try omega) _ | refine Below.setCell ?_ (by simp; try omega) _)

set_option maxRecDepth 100000 in
set_option maxHeartbeats 4000000 in
theorem utf_more (n cd f t : Int) (c : UInt8) (w : World) (hn : n = 1 ∨ n = 2 ∨ n = 3) (h0 : 0 ≤ cd) (h1 : cd < 32768) :
    Calls Tryd.prog 109 #[stV ⟨n, cd, f, t, [], 0, 0⟩, .int .i64 (c.toNat : Int)] w fun e w' => Ans w (Pl.dUtf ⟨n, cd, f, t, [], 0, 0⟩ c) e w' := by
  obtain ⟨b, hb⟩ : ∃ b : Nat, c.toNat = b := ⟨_, rfl⟩
  have hb2 : (b : Int) ≤ 255 := by have := c.toNat_lt; omega
  have HB := Lib.hid hb
  rw [hb]
  clear hb
  unfold stV
  have hor := Lib.hid (or_6 cd ((b : Int) % 64) h0 (by omega) (by omega) (by omega))
  rcases hn with rfl | rfl | rfl <;> (
    go_enter Tryd.func109, Tryd.ntmps109
    go_wp2_with fail
    all_goals
      refine bodyPost_ret (by simp [results, Tryd.results109, go_sem]; rfl) rfl ?_
      first
        | refine ans_nil ?_ ?_
        | refine ans_one ?_ (by omega) (heap_at (by simp)) ?_
      · have hc := HB.out
        simp only at *
        unfold Pl.dUtf byte
        rw [hc]
        dsimp only
        repeat (first | rw [if_neg (by omega)] | rw [if_pos (by omega)])
        try simp only [and_63, hor.out]
        try rfl
      · repeat (first | exact Below.refl _ _ | refine Below.alloc ?_ (by simp; try omega) _ | refine Below.setCell ?_ (by simp; try omega) _))

set_option maxRecDepth 100000 in
set_option maxHeartbeats 4000000 in
theorem twin_zero (c : UInt8) (w : World) :
    Calls Tryd.prog 111 #[stV st0, .int .i64 (c.toNat : Int)] w fun e w' => Ans w (Pl.dTwin st0 c) e w' := by
  obtain ⟨b, hb⟩ : ∃ b : Nat, c.toNat = b := ⟨_, rfl⟩
  have hb2 : (b : Int) ≤ 255 := by have := c.toNat_lt; omega
  have HB := Lib.hid hb
  rw [hb]
  clear hb
  unfold stV
  unfold st0
  have hcv := conv_one c b HB.out w
  go_enter Tryd.func111, Tryd.ntmps111
  go_wp2_with fail
  all_goals
    refine bodyPost_ret (by simp [results, Tryd.results111, go_sem]; rfl) rfl ?_
    first
      | refine ans_nil ?_ ?_
      | refine ans_one ?_ (by omega) (heap_at (by simp)) ?_
    · have hc := HB.out
      simp only at *
      unfold Pl.dTwin byte
      rw [hc]
      dsimp only
      repeat (first | rw [if_neg (by omega)] | rw [if_pos (by omega)])
      try rfl
    · repeat (first | exact Below.refl _ _ | refine Below.alloc ?_ (by simp; try omega) _ | refine Below.setCell ?_ (by simp; try omega) _)
end Go.Proofs.YtefohnbmifblkaaDoor
