/-
  The references' piece: its inner functions.
-/
import Derived.Test.YtefohnbmifblkaaDoorMem
import Derived.Test.YtefohnbmifblkaaDoorPlP
import Derived.Test.YtefohnbmifblkaaDoorDcA
import Derived.Test.YtefohnbmifblkaaDoorShelf
import Derived.Deep.RegionWith
namespace Go.Proofs.YtefohnbmifblkaaDoor
open Go.RowKit

/-- a byte, or -1 where there is none. -/
def getB (l : List UInt8) (i : Nat) : Int := match l[i]? with
  | some c => Pl.byte c
  | none => -1
theorem getB_some (l : List UInt8) (i : Nat) (c : UInt8) (h : l[i]? = some c) : getB l i = Pl.byte c := by
  unfold getB
  rw [h]
theorem getB_none (l : List UInt8) (i : Nat) (h : l.length ≤ i) : getB l i = -1 := by
  unfold getB
  rw [List.getElem?_eq_none h]
theorem getB_range (l : List UInt8) (i : Nat) : -1 ≤ getB l i ∧ getB l i ≤ 255 := by
  unfold getB
  split
  · rename_i c _
    have := Pl.byte_lt c
    omega
  · omega
def unitB (low : Bool) (l : List UInt8) (i : Nat) : Int := if getB l i < 0 ∨ getB l (i + 1) < 0 then -1 else if low then 256 * getB l (i + 1) + getB l i else 256 * getB l i + getB l (i + 1)

set_option maxHeartbeats 1000000 in
theorem get_any (s : ByteArray) (S : Nat) (x : Int) (i : Nat) (W : World) (hx : x = (i : Int)) (hc : W.cell? ⟨S, 0, none⟩ = some (.string s)) :
    Calls Tryd.prog 93 #[.int .i64 x, .pointer (some ⟨S, 0, none⟩)] W fun e w' => e = .returned (.int .i64 (getB s.data.toList i)) ∧ W = w' := by
  subst hx
  by_cases hlt : i < s.size
  · have hlt2 : (i : Int) < (s.size : Int) := by omega
    have hi0 : (0 : Int) ≤ (i : Int) := by omega
    obtain ⟨c, hcc⟩ : ∃ c, s.data.toList[i]'(by simpa using hlt) = c := ⟨_, rfl⟩
    obtain ⟨y, hy⟩ : ∃ y : Nat, c.toNat = y := ⟨_, rfl⟩
    have hix : ∀ h : i < s.size, (s[i]'h).toNat = y := fun h => by rw [← hy, ← hcc]; rfl
    have hy2 : (y : Int) ≤ 255 := by have := c.toNat_lt; omega
    have hwb : IntKind.i64.wrap (y : Int) = (y : Int) := by rw [IntKind.wrap_i64]; omega
    rw [show getB s.data.toList i = (y : Int) from (getB_some _ i c (by rw [List.getElem?_eq_getElem (by simpa using hlt), hcc])).trans (by unfold Pl.byte; rw [hy])]
    clear hy hcc
    go_enter Tryd.func93, Tryd.ntmps93
    go_wp2
    go_ret
    exact ⟨rfl, rfl⟩
  · have hlt2 : ¬ (i : Int) < (s.size : Int) := by omega
    rw [getB_none _ _ (by simp; omega)]
    go_enter Tryd.func93, Tryd.ntmps93
    go_wp2
    go_ret
    exact ⟨rfl, rfl⟩

set_option maxHeartbeats 1000000 in
theorem in_yes (x lo hi : Int) (W : World) (h0 : lo ≤ x) (h1 : x ≤ hi) : Calls Tryd.prog 94 #[.int .i64 x, .int .i64 lo, .int .i64 hi] W fun e w' => e = .returned (.bool true) ∧ W = w' := by
  have h2 : x ≥ lo := h0
  go_enter Tryd.func94, Tryd.ntmps94
  go_wp2
  go_ret
  exact ⟨rfl, rfl⟩
set_option maxHeartbeats 1000000 in
theorem in_no (x lo hi : Int) (W : World) (h : ¬ (lo ≤ x ∧ x ≤ hi)) : Calls Tryd.prog 94 #[.int .i64 x, .int .i64 lo, .int .i64 hi] W fun e w' => e = .returned (.bool false) ∧ W = w' := by
  by_cases h0 : lo ≤ x
  · have h1 : hi < x := by omega
    have h2 : ¬ x ≤ hi := by omega
    go_enter Tryd.func94, Tryd.ntmps94
    go_wp2
    go_ret
    exact ⟨rfl, rfl⟩
  · have h1 : x < lo := by omega
    have h2 : ¬ x ≥ lo := by omega
    go_enter Tryd.func94, Tryd.ntmps94
    go_wp2
    go_ret
    exact ⟨rfl, rfl⟩

/-- what lies in memory when piece has begun. -/
structure Pc (w : World) (s : ByteArray) (e : Int) (W : World) : Prop where
  e0 : W.cell? ⟨w.heap.size, 0, none⟩ = some (.int .i64 e)
  s0 : W.cell? ⟨w.heap.size + 1, 0, none⟩ = some (.string s)
  g0 : W.cell? ⟨w.heap.size + 2, 0, none⟩ = some (.func (.func 93) #[] #[.pointer (some ⟨w.heap.size + 1, 0, none⟩)])
  bad : W.ownsRow w.heap.size 3 1 (.slice (some ⟨w.heap.size + 3, 0, none⟩) 1 1) 1 (ints [-1])
  below : Below w.heap.size w W

set_option maxRecDepth 100000 in
set_option maxHeartbeats 2000000 in
theorem unit_any (s : ByteArray) (e : Int) (E S G : Nat) (x : Int) (i : Nat) (W : World) (hx : x = (i : Int)) (hi : x ≤ 4000) (hE : W.cell? ⟨E, 0, none⟩ = some (.int .i64 e)) (hS : W.cell? ⟨S, 0, none⟩ = some (.string s)) (hG : W.cell? ⟨G, 0, none⟩ = some (.func (.func 93) #[] #[.pointer (some ⟨S, 0, none⟩)])) :
    Calls Tryd.prog 95 #[.int .i64 x, .pointer (some ⟨G, 0, none⟩), .pointer (some ⟨E, 0, none⟩)] W fun r w' => r = .returned (.int .i64 (unitB (e == 5) s.data.toList i)) ∧ Drew W w' := by
  have r0 := getB_range s.data.toList i
  have r1 := getB_range s.data.toList (i + 1)
  obtain ⟨a, ha⟩ : ∃ a, getB s.data.toList i = a := ⟨_, rfl⟩
  obtain ⟨b, hb⟩ : ∃ b, getB s.data.toList (i + 1) = b := ⟨_, rfl⟩
  obtain ⟨x1, hx1⟩ : ∃ x1, x + 1 = x1 := ⟨_, rfl⟩
  have H0 : Hid (∀ W', Drew W W' → Calls Tryd.prog 93 #[.int .i64 x, .pointer (some ⟨S, 0, none⟩)] W' fun e w' => e = .returned (.int .i64 a) ∧ W' = w') := Lib.hid fun W' h => by
    have := get_any s S x i W' hx ((h.cell _).trans hS)
    rwa [ha] at this
  have H1 : Hid (∀ W', Drew W W' → Calls Tryd.prog 93 #[.int .i64 x1, .pointer (some ⟨S, 0, none⟩)] W' fun e w' => e = .returned (.int .i64 b) ∧ W' = w') := Lib.hid fun W' h => by
    have := get_any s S x1 (i + 1) W' (by omega) ((h.cell _).trans hS)
    rwa [hb] at this
  unfold unitB
  rw [ha] at r0
  rw [hb] at r1
  rw [ha, hb]
  have hx0 : 0 ≤ x := by omega
  have hwx : IntKind.i64.wrap x1 = x1 := by rw [IntKind.wrap_i64]; omega
  obtain ⟨a0, a1⟩ := r0
  obtain ⟨b0, b1⟩ := r1
  clear ha hb hx
  by_cases hA : a < 0
  · rw [if_pos (.inl hA)]
    go_enter Tryd.func95, Tryd.ntmps95
    go_wp2_with fail
    go_region_with
      (first
        | (go_at_call 93
           with_reducible refine (H0.out _ ?_).mono ?_
           · first | exact (Drew.refl W).drew | exact Drew.refl W | exact ⟨_, rfl⟩
           rintro e1 w1 ⟨rfl, hw1⟩
           subst hw1)
        | (go_at_call 93
           with_reducible refine (H1.out _ ?_).mono ?_
           · first | exact (Drew.refl W).drew | exact Drew.refl W | exact ⟨_, rfl⟩
           rintro e2 w2 ⟨rfl, hw2⟩
           subst hw2))
    all_goals
      go_wp2
      go_ret
      exact ⟨rfl, (Drew.refl W).drew⟩
  by_cases hB : b < 0
  · rw [if_pos (.inr hB)]
    go_enter Tryd.func95, Tryd.ntmps95
    go_wp2_with fail
    go_region_with
      (first
        | (go_at_call 93
           with_reducible refine (H0.out _ ?_).mono ?_
           · first | exact (Drew.refl W).drew | exact Drew.refl W | exact ⟨_, rfl⟩
           rintro e1 w1 ⟨rfl, hw1⟩
           subst hw1)
        | (go_at_call 93
           with_reducible refine (H1.out _ ?_).mono ?_
           · first | exact (Drew.refl W).drew | exact Drew.refl W | exact ⟨_, rfl⟩
           rintro e2 w2 ⟨rfl, hw2⟩
           subst hw2))
    all_goals
      go_wp2
      go_ret
      exact ⟨rfl, (Drew.refl W).drew⟩
  rw [if_neg (show ¬ (a < 0 ∨ b < 0) by omega)]
  have hm1 : IntKind.i64.wrap (256 * a) = 256 * a := by rw [IntKind.wrap_i64]; omega
  have hm2 : IntKind.i64.wrap (256 * b) = 256 * b := by rw [IntKind.wrap_i64]; omega
  have hm3 : IntKind.i64.wrap (256 * a + b) = 256 * a + b := by rw [IntKind.wrap_i64]; omega
  have hm4 : IntKind.i64.wrap (256 * b + a) = 256 * b + a := by rw [IntKind.wrap_i64]; omega
  by_cases h5 : e = 5
  · subst h5
    rw [if_pos (show ((5 : Int) == 5) = true from rfl)]
    go_enter Tryd.func95, Tryd.ntmps95
    go_wp2_with fail
    go_region_with
      (first
        | (go_at_call 93
           with_reducible refine (H0.out _ ?_).mono ?_
           · first | exact (Drew.refl W).drew | exact Drew.refl W | exact ⟨_, rfl⟩
           rintro e1 w1 ⟨rfl, hw1⟩
           subst hw1)
        | (go_at_call 93
           with_reducible refine (H1.out _ ?_).mono ?_
           · first | exact (Drew.refl W).drew | exact Drew.refl W | exact ⟨_, rfl⟩
           rintro e2 w2 ⟨rfl, hw2⟩
           subst hw2))
    all_goals
      go_wp2
      go_ret
      exact ⟨rfl, (Drew.refl W).drew⟩
  · have h5b : (e == 5) = false := beq_eq_false_iff_ne.2 h5
    rw [h5b]
    rw [if_neg (by simp)]
    go_enter Tryd.func95, Tryd.ntmps95
    go_wp2_with fail
    go_region_with
      (first
        | (go_at_call 93
           with_reducible refine (H0.out _ ?_).mono ?_
           · first | exact (Drew.refl W).drew | exact Drew.refl W | exact ⟨_, rfl⟩
           rintro e1 w1 ⟨rfl, hw1⟩
           subst hw1)
        | (go_at_call 93
           with_reducible refine (H1.out _ ?_).mono ?_
           · first | exact (Drew.refl W).drew | exact Drew.refl W | exact ⟨_, rfl⟩
           rintro e2 w2 ⟨rfl, hw2⟩
           subst hw2))
    all_goals
      go_wp2
      go_ret
      exact ⟨rfl, (Drew.refl W).drew⟩
/-! ## The plain pieces, by what get and unit tell. -/
namespace Pl
theorem pTwin_eq (b : UInt8) (r : List UInt8) : pTwin (b :: r) =
    if byte b < 128 then ([byte b], 1)
    else if 161 ≤ byte b ∧ byte b ≤ 223 then ([65377 + byte b - 161], 1)
    else if ¬ (129 ≤ byte b ∧ byte b ≤ 159) then ([-1], 1)
    else if 64 ≤ getB (b :: r) 1 ∧ getB (b :: r) 1 ≤ 126 then ([19968 + 188 * (byte b - 129) + getB (b :: r) 1 - 64], 2)
    else if 128 ≤ getB (b :: r) 1 ∧ getB (b :: r) 1 ≤ 252 then ([19968 + 188 * (byte b - 129) + getB (b :: r) 1 - 65], 2)
    else if 128 ≤ getB (b :: r) 1 then ([-1], 2)
    else ([-1], 1) := by
  cases r with
  | nil =>
    rw [show getB [b] 1 = -1 from rfl]
    unfold pTwin
    dsimp only
    repeat' split
    all_goals first | rfl | omega
  | cons x r =>
    rw [show getB (b :: x :: r) 1 = byte x from rfl]
    rfl
theorem pPairs_eq (low : Bool) (b : UInt8) (r : List UInt8) : pPairs low (b :: r) =
    if unitB low (b :: r) 0 < 0 then ([-1], 1)
    else if 56320 ≤ unitB low (b :: r) 0 ∧ unitB low (b :: r) 0 ≤ 57343 then ([-1], 2)
    else if ¬ (55296 ≤ unitB low (b :: r) 0 ∧ unitB low (b :: r) 0 ≤ 56319) then ([unitB low (b :: r) 0], 2)
    else if 56320 ≤ unitB low (b :: r) 2 ∧ unitB low (b :: r) 2 ≤ 57343 then ([65536 + 1024 * (unitB low (b :: r) 0 - 55296) + unitB low (b :: r) 2 - 56320], 4)
    else if unitB low (b :: r) 2 < 0 then ([-1], (b :: r).length)
    else ([-1], 2) := by
  have hu : ∀ (x y : UInt8) (l : List UInt8) (i : Nat), l[i]? = some x → l[i + 1]? = some y → unitB low l i = unit low x y := by
    intro x y l i h1 h2
    have b1 := byte_lt x
    have b2 := byte_lt y
    unfold unitB unit
    rw [getB_some l i x h1, getB_some l (i + 1) y h2, if_neg (by omega)]
  have hn : ∀ (l : List UInt8) (i : Nat), l.length ≤ i + 1 → unitB low l i = -1 := by
    intro l i h
    unfold unitB
    rw [if_pos (.inr (by rw [getB_none l (i + 1) h]; omega))]
  have hp : ∀ x y : UInt8, 0 ≤ unit low x y := by
    intro x y
    have b1 := byte_lt x
    have b2 := byte_lt y
    unfold unit
    split <;> omega
  match r with
  | [] =>
    rw [hn [b] 0 (by simp), if_pos (by omega)]
    rfl
  | [y] =>
    rw [hu b y [b, y] 0 rfl rfl, hn [b, y] 2 (by simp), if_neg (show ¬ unit low b y < 0 by have := hp b y; omega)]
    unfold pPairs
    dsimp only
    repeat' split
    all_goals first | rfl | omega
  | [y, z] =>
    rw [hu b y [b, y, z] 0 rfl rfl, hn [b, y, z] 2 (by simp), if_neg (show ¬ unit low b y < 0 by have := hp b y; omega)]
    unfold pPairs
    dsimp only
    repeat' split
    all_goals first | rfl | omega
  | y :: z :: t :: r =>
    rw [hu b y (b :: y :: z :: t :: r) 0 rfl rfl, hu z t (b :: y :: z :: t :: r) 2 rfl rfl, if_neg (show ¬ unit low b y < 0 by have := hp b y; omega)]
    have := hp z t
    unfold pPairs
    dsimp only
    repeat' split
    all_goals first | rfl | omega
theorem pShift_eq (m : Int) (b : UInt8) (r : List UInt8) : pShift m (b :: r) =
    if [27, 40, 66].isPrefixOf (b :: r) = true then ([], 3, 0)
    else if [27, 36, 66].isPrefixOf (b :: r) = true then ([], 3, 1)
    else if byte b = 27 then ([-1], 1, m)
    else if m = 0 ∧ (127 < byte b ∨ byte b = 14 ∨ byte b = 15) then ([-1], 1, 0)
    else if m = 0 then ([byte b], 1, 0)
    else if byte b = 10 then ([10], 1, 0)
    else if ¬ (33 ≤ byte b ∧ byte b ≤ 126) then ([-1], 1, 1)
    else if 33 ≤ getB (b :: r) 1 ∧ getB (b :: r) 1 ≤ 126 then ([12288 + 94 * (byte b - 33) + getB (b :: r) 1 - 33], 2, 1)
    else if getB (b :: r) 1 = 27 ∨ getB (b :: r) 1 < 0 then ([-1], 1, 1)
    else ([-1], 2, 1) := by
  cases r with
  | nil =>
    rw [show getB [b] 1 = -1 from rfl]
    unfold pShift
    dsimp only
    repeat' split
    all_goals first | rfl | omega
  | cons x r =>
    have bx := byte_lt x
    rw [show getB (b :: x :: r) 1 = byte x from rfl]
    unfold pShift
    dsimp only
    repeat' split
    all_goals first | rfl | omega
end Pl
end Go.Proofs.YtefohnbmifblkaaDoor
