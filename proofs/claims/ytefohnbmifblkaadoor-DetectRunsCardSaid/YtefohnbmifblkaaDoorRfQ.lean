/-
  The references' piece: what it lays in memory; twin, latin.
-/
import Derived.Test.YtefohnbmifblkaaDoorRfP
import Derived.Test.YtefohnbmifblkaaDoorMem
import Derived.Laws.EntriesVeiled
namespace Go.Proofs.YtefohnbmifblkaaDoor
open Go.RowKit

/-- what piece returns. -/
def AnsP (w : World) (o : List Int) (n : Nat) (m : Int) (e : Ending) (w' : World) : Prop :=
  ∃ v, e = .returned (.tuple #[v, .int .i64 (n : Int), .int .i64 m]) ∧ w'.ownsRow w.heap.size 3 1 v o.length (ints o) ∧ Below w.heap.size w w'

/-- when piece has begun. -/
structure Pb (w : World) (s : ByteArray) (e : Int) (W : World) : Prop where
  e0 : W.cell? ⟨w.heap.size, 0, none⟩ = some (.int .i64 e)
  s0 : W.cell? ⟨w.heap.size + 1, 0, none⟩ = some (.string s)
  g0 : W.cell? ⟨w.heap.size + 1 + 1, 0, none⟩ = some (.func (.func 93) #[] #[.pointer (some ⟨w.heap.size + 1, 0, none⟩)])
  bad : W.ownsRow w.heap.size 3 1 (.slice (some ⟨w.heap.size + 1 + 1 + 1, 0, none⟩) 1 1) [(-1 : Int)].length (ints [-1])
  below : Below w.heap.size w W
theorem pb_lay (w : World) (s : ByteArray) (e : Int) : Pb w s e ((((w.alloc (.cells #[.int .i64 e] 3)).alloc (.cells #[.string s] 9)).alloc (.cells #[.func (.func 93) #[] #[.pointer (some ⟨w.heap.size + 1, 0, none⟩)]] 87)).alloc (.cells #[.int .i64 (-1)] 3)) := by
  have b3 : ((((w.alloc (.cells #[.int .i64 e] 3)).alloc (.cells #[.string s] 9)).alloc (.cells #[.func (.func 93) #[] #[.pointer (some ⟨w.heap.size + 1, 0, none⟩)]] 87)).alloc (.cells #[.int .i64 (-1)] 3)).heap[w.heap.size + 1 + 1 + 1]? = some (.cells #[.int .i64 (-1)] 3 (0, 0)) := by
    have h := heap_alloc_new (((w.alloc (.cells #[.int .i64 e] 3)).alloc (.cells #[.string s] 9)).alloc (.cells #[.func (.func 93) #[] #[.pointer (some ⟨w.heap.size + 1, 0, none⟩)]] 87)) (.cells #[.int .i64 (-1)] 3)
    rw [show (((w.alloc (.cells #[.int .i64 e] 3)).alloc (.cells #[.string s] 9)).alloc (.cells #[.func (.func 93) #[] #[.pointer (some ⟨w.heap.size + 1, 0, none⟩)]] 87)).heap.size = w.heap.size + 1 + 1 + 1 by simp] at h
    exact h
  have b2 : ((((w.alloc (.cells #[.int .i64 e] 3)).alloc (.cells #[.string s] 9)).alloc (.cells #[.func (.func 93) #[] #[.pointer (some ⟨w.heap.size + 1, 0, none⟩)]] 87)).alloc (.cells #[.int .i64 (-1)] 3)).heap[w.heap.size + 1 + 1]? = some (.cells #[.func (.func 93) #[] #[.pointer (some ⟨w.heap.size + 1, 0, none⟩)]] 87 (0, 0)) := by
    have h := heap_alloc_new ((w.alloc (.cells #[.int .i64 e] 3)).alloc (.cells #[.string s] 9)) (.cells #[.func (.func 93) #[] #[.pointer (some ⟨w.heap.size + 1, 0, none⟩)]] 87)
    rw [show ((w.alloc (.cells #[.int .i64 e] 3)).alloc (.cells #[.string s] 9)).heap.size = w.heap.size + 1 + 1 by simp] at h
    exact (Go.Deep.blk_alloc_lt _ _ _ (by simp)).trans h
  have b1 : ((((w.alloc (.cells #[.int .i64 e] 3)).alloc (.cells #[.string s] 9)).alloc (.cells #[.func (.func 93) #[] #[.pointer (some ⟨w.heap.size + 1, 0, none⟩)]] 87)).alloc (.cells #[.int .i64 (-1)] 3)).heap[w.heap.size + 1]? = some (.cells #[.string s] 9 (0, 0)) := by
    have h := heap_alloc_new (w.alloc (.cells #[.int .i64 e] 3)) (.cells #[.string s] 9)
    rw [show (w.alloc (.cells #[.int .i64 e] 3)).heap.size = w.heap.size + 1 by simp] at h
    exact (Go.Deep.blk_alloc_lt _ _ _ (by simp)).trans ((Go.Deep.blk_alloc_lt _ _ _ (by simp)).trans h)
  have b0 : ((((w.alloc (.cells #[.int .i64 e] 3)).alloc (.cells #[.string s] 9)).alloc (.cells #[.func (.func 93) #[] #[.pointer (some ⟨w.heap.size + 1, 0, none⟩)]] 87)).alloc (.cells #[.int .i64 (-1)] 3)).heap[w.heap.size]? = some (.cells #[.int .i64 e] 3 (0, 0)) :=
    (Go.Deep.blk_alloc_lt _ _ _ (by simp; omega)).trans ((Go.Deep.blk_alloc_lt _ _ _ (by simp; omega)).trans ((Go.Deep.blk_alloc_lt _ _ _ (by simp)).trans (heap_alloc_new w _)))
  exact ⟨cell_of_row _ _ 0 _ _ _ b0, cell_of_row _ _ 0 _ _ _ b1, cell_of_row _ _ 0 _ _ _ b2, own_one (by omega) b3, ((two_new _ _ _).alloc (by simp; omega) _).alloc (by simp; omega) _⟩
theorem Pb.drew {w W W' : World} {s : ByteArray} {e : Int} (h : Pb w s e W) (k : Drew W W') : Pb w s e W' :=
  ⟨(k.cell _).trans h.e0, (k.cell _).trans h.s0, (k.cell _).trans h.g0, by obtain ⟨n, rfl⟩ := k; exact h.bad, bthen h.below k.below⟩
theorem Pb.ret_bad {w W : World} {s : ByteArray} {e : Int} (h : Pb w s e W) (n : Nat) (m : Int) : AnsP w [-1] n m (.returned (.tuple #[.slice (some ⟨w.heap.size + 1 + 1 + 1, 0, none⟩) 1 1, .int .i64 (n : Int), .int .i64 m])) W := ⟨_, rfl, h.bad, h.below⟩
theorem Pb.ret_new {w W : World} {s : ByteArray} {e : Int} (h : Pb w s e W) (x : Int) (n : Nat) (m : Int) : AnsP w [x] n m (.returned (.tuple #[.slice (some ⟨W.heap.size, 0, none⟩) 1 1, .int .i64 (n : Int), .int .i64 m])) (W.alloc (.cells #[.int .i64 x] 3)) :=
  ⟨_, rfl, own_one h.below.size (heap_alloc_new W _), h.below.alloc h.below.size _⟩
theorem Pb.ret_nil {w W : World} {s : ByteArray} {e : Int} (h : Pb w s e W) (n : Nat) (m : Int) : AnsP w [] n m (.returned (.tuple #[.slice none 0 0, .int .i64 (n : Int), .int .i64 m])) W := ⟨_, rfl, ⟨rfl, .inl ⟨rfl, rfl⟩⟩, h.below⟩
/-- a row of one number by any name of its block. -/
theorem AnsP.of {w : World} {o : List Int} {n : Nat} {m : Int} {v : Value} {w' : World} (o' : List Int) (n' : Nat) (m' : Int) (h : AnsP w o n m (.returned v) w') (h1 : o = o') (h2 : n = n') (h3 : m = m') : AnsP w o' n' m' (.returned v) w' := by subst h1 h2 h3; exact h

set_option maxRecDepth 100000 in
set_option maxHeartbeats 4000000 in
theorem piece_twin (s : ByteArray) (m : Int) (b : UInt8) (r : List UInt8) (w : World) (hb : s.data.toList = b :: r) :
    Calls Tryd.prog 72 #[.int .i64 3, .string s, .int .i64 m] w fun e w' => AnsP w (Pl.pTwin (b :: r)).1 (Pl.pTwin (b :: r)).2 0 e w' := by
  have hs0 : s.data.toList.length = s.size := by simp
  have hpos : 0 < s.size := by rw [← hs0, hb]; simp
  rw [Pl.pTwin_eq]
  rw [← hb]
  obtain ⟨y, hy⟩ : ∃ y : Nat, b.toNat = y := ⟨_, rfl⟩
  have hix : ∀ h : 0 < s.size, (s[0]'h).toNat = y := fun h => by
    rw [← hy]
    show (s.data.toList[0]'(by simpa using h)).toNat = _
    simp [hb]
  have hy2 : (y : Int) ≤ 255 := by have := b.toNat_lt; omega
  have hwb : IntKind.i64.wrap (y : Int) = (y : Int) := by rw [IntKind.wrap_i64]; omega
  rw [show Pl.byte b = (y : Int) by unfold Pl.byte; rw [hy]]
  have hx := getB_range s.data.toList 1
  have HX : Hid (∀ (S : Nat) (W : World), W.cell? ⟨S, 0, none⟩ = some (.string s) → Calls Tryd.prog 93 #[.int .i64 1, .pointer (some ⟨S, 0, none⟩)] W fun e w' => e = .returned (.int .i64 (getB s.data.toList 1)) ∧ W = w') := Lib.hid fun S W h => get_any s S 1 1 W rfl h
  obtain ⟨x, hx2⟩ : ∃ x, getB s.data.toList 1 = x := ⟨_, rfl⟩
  rw [hx2] at hx HX ⊢
  obtain ⟨hx0, hx1⟩ := hx
  clear hx2
  clear hy hb hs0
  by_cases h1 : (y : Int) < 128
  · rw [if_pos h1]
    go_enter Tryd.func72, Tryd.ntmps72
    go_wp2_with fail
    have P1 := pb_lay w s 3
    generalize World.alloc _ _ = W at P1 ⊢
    have e0 := P1.e0
    have s0 := P1.s0
    have g0 := P1.g0
    have HP := Lib.hid P1
    clear P1
    refine (HX.out _ _ s0).mono ?_
    rintro r1 w1 ⟨rfl, hw1⟩
    subst hw1
    go_wp2_with fail
    refine bodyPost_ret (by simp [results, Tryd.results72, go_sem]; rfl) rfl ?_
    exact HP.out.ret_new ((y : Int)) 1 0
  rw [if_neg h1]
  by_cases h2 : 161 ≤ (y : Int) ∧ (y : Int) ≤ 223
  · rw [if_pos h2]
    go_enter Tryd.func72, Tryd.ntmps72
    go_wp2_with fail
    have P1 := pb_lay w s 3
    generalize World.alloc _ _ = W at P1 ⊢
    have e0 := P1.e0
    have s0 := P1.s0
    have g0 := P1.g0
    have HP := Lib.hid P1
    clear P1
    refine (HX.out _ _ s0).mono ?_
    rintro r1 w1 ⟨rfl, hw1⟩
    subst hw1
    go_wp2_with fail
    refine (in_yes y 161 223 _ (by omega) (by omega)).mono ?_
    rintro r2 w2 ⟨rfl, hw2⟩
    subst hw2
    go_wp2_with fail
    refine bodyPost_ret (by simp [results, Tryd.results72, go_sem]; rfl) rfl ?_
    exact HP.out.ret_new (65377 + (y : Int) - 161) 1 0
  rw [if_neg h2]
  by_cases h3 : ¬ (129 ≤ (y : Int) ∧ (y : Int) ≤ 159)
  · rw [if_pos h3]
    go_enter Tryd.func72, Tryd.ntmps72
    go_wp2_with fail
    have P1 := pb_lay w s 3
    generalize World.alloc _ _ = W at P1 ⊢
    have e0 := P1.e0
    have s0 := P1.s0
    have g0 := P1.g0
    have HP := Lib.hid P1
    clear P1
    refine (HX.out _ _ s0).mono ?_
    rintro r1 w1 ⟨rfl, hw1⟩
    subst hw1
    go_wp2_with fail
    refine (in_no y 161 223 _ (by omega)).mono ?_
    rintro r2 w2 ⟨rfl, hw2⟩
    subst hw2
    go_wp2_with fail
    refine (in_no y 129 159 _ (by omega)).mono ?_
    rintro r2 w2 ⟨rfl, hw2⟩
    subst hw2
    go_wp2_with fail
    refine bodyPost_ret (by simp [results, Tryd.results72, go_sem]; rfl) rfl ?_
    exact HP.out.ret_bad 1 0
  rw [if_neg h3]
  have h3a : 129 ≤ (y : Int) := by omega
  have h3b : (y : Int) ≤ 159 := by omega
  by_cases h4 : 64 ≤ x ∧ x ≤ 126
  · rw [if_pos h4]
    go_enter Tryd.func72, Tryd.ntmps72
    go_wp2_with fail
    have P1 := pb_lay w s 3
    generalize World.alloc _ _ = W at P1 ⊢
    have e0 := P1.e0
    have s0 := P1.s0
    have g0 := P1.g0
    have HP := Lib.hid P1
    clear P1
    refine (HX.out _ _ s0).mono ?_
    rintro r1 w1 ⟨rfl, hw1⟩
    subst hw1
    go_wp2_with fail
    refine (in_no y 161 223 _ (by omega)).mono ?_
    rintro r2 w2 ⟨rfl, hw2⟩
    subst hw2
    go_wp2_with fail
    refine (in_yes y 129 159 _ (by omega) (by omega)).mono ?_
    rintro r2 w2 ⟨rfl, hw2⟩
    subst hw2
    go_wp2_with fail
    refine (in_yes x 64 126 _ (by omega) (by omega)).mono ?_
    rintro r2 w2 ⟨rfl, hw2⟩
    subst hw2
    go_wp2_with fail
    refine bodyPost_ret (by simp [results, Tryd.results72, go_sem]; rfl) rfl ?_
    exact HP.out.ret_new (19968 + 188 * ((y : Int) - 129) + x - 64) 2 0
  rw [if_neg h4]
  by_cases h5 : 128 ≤ x ∧ x ≤ 252
  · rw [if_pos h5]
    go_enter Tryd.func72, Tryd.ntmps72
    go_wp2_with fail
    have P1 := pb_lay w s 3
    generalize World.alloc _ _ = W at P1 ⊢
    have e0 := P1.e0
    have s0 := P1.s0
    have g0 := P1.g0
    have HP := Lib.hid P1
    clear P1
    refine (HX.out _ _ s0).mono ?_
    rintro r1 w1 ⟨rfl, hw1⟩
    subst hw1
    go_wp2_with fail
    refine (in_no y 161 223 _ (by omega)).mono ?_
    rintro r2 w2 ⟨rfl, hw2⟩
    subst hw2
    go_wp2_with fail
    refine (in_yes y 129 159 _ (by omega) (by omega)).mono ?_
    rintro r2 w2 ⟨rfl, hw2⟩
    subst hw2
    go_wp2_with fail
    refine (in_no x 64 126 _ (by omega)).mono ?_
    rintro r2 w2 ⟨rfl, hw2⟩
    subst hw2
    go_wp2_with fail
    refine (in_yes x 128 252 _ (by omega) (by omega)).mono ?_
    rintro r2 w2 ⟨rfl, hw2⟩
    subst hw2
    go_wp2_with fail
    refine bodyPost_ret (by simp [results, Tryd.results72, go_sem]; rfl) rfl ?_
    exact HP.out.ret_new (19968 + 188 * ((y : Int) - 129) + x - 65) 2 0
  rw [if_neg h5]
  by_cases h6 : 128 ≤ x
  · rw [if_pos h6]
    go_enter Tryd.func72, Tryd.ntmps72
    go_wp2_with fail
    have P1 := pb_lay w s 3
    generalize World.alloc _ _ = W at P1 ⊢
    have e0 := P1.e0
    have s0 := P1.s0
    have g0 := P1.g0
    have HP := Lib.hid P1
    clear P1
    refine (HX.out _ _ s0).mono ?_
    rintro r1 w1 ⟨rfl, hw1⟩
    subst hw1
    go_wp2_with fail
    refine (in_no y 161 223 _ (by omega)).mono ?_
    rintro r2 w2 ⟨rfl, hw2⟩
    subst hw2
    go_wp2_with fail
    refine (in_yes y 129 159 _ (by omega) (by omega)).mono ?_
    rintro r2 w2 ⟨rfl, hw2⟩
    subst hw2
    go_wp2_with fail
    refine (in_no x 64 126 _ (by omega)).mono ?_
    rintro r2 w2 ⟨rfl, hw2⟩
    subst hw2
    go_wp2_with fail
    refine (in_no x 128 252 _ (by omega)).mono ?_
    rintro r2 w2 ⟨rfl, hw2⟩
    subst hw2
    go_wp2_with fail
    refine bodyPost_ret (by simp [results, Tryd.results72, go_sem]; rfl) rfl ?_
    exact HP.out.ret_bad 2 0
  · rw [if_neg h6]
    go_enter Tryd.func72, Tryd.ntmps72
    go_wp2_with fail
    have P1 := pb_lay w s 3
    generalize World.alloc _ _ = W at P1 ⊢
    have e0 := P1.e0
    have s0 := P1.s0
    have g0 := P1.g0
    have HP := Lib.hid P1
    clear P1
    refine (HX.out _ _ s0).mono ?_
    rintro r1 w1 ⟨rfl, hw1⟩
    subst hw1
    go_wp2_with fail
    refine (in_no y 161 223 _ (by omega)).mono ?_
    rintro r2 w2 ⟨rfl, hw2⟩
    subst hw2
    go_wp2_with fail
    refine (in_yes y 129 159 _ (by omega) (by omega)).mono ?_
    rintro r2 w2 ⟨rfl, hw2⟩
    subst hw2
    go_wp2_with fail
    refine (in_no x 64 126 _ (by omega)).mono ?_
    rintro r2 w2 ⟨rfl, hw2⟩
    subst hw2
    go_wp2_with fail
    refine (in_no x 128 252 _ (by omega)).mono ?_
    rintro r2 w2 ⟨rfl, hw2⟩
    subst hw2
    go_wp2_with fail
    refine bodyPost_ret (by simp [results, Tryd.results72, go_sem]; rfl) rfl ?_
    exact HP.out.ret_bad 1 0
end Go.Proofs.YtefohnbmifblkaaDoor
