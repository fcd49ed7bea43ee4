/-
  The references' piece: the pairs.
-/
import Derived.Test.YtefohnbmifblkaaDoorRfQ
import Derived.Test.YtefohnbmifblkaaDoorRfD
import Derived.Deep.RegionWith
namespace Go.Proofs.YtefohnbmifblkaaDoor
open Go.RowKit
theorem unitB_range (low : Bool) (l : List UInt8) (i : Nat) : -1 ≤ unitB low l i ∧ unitB low l i ≤ 65535 := by
  have h1 := getB_range l i
  have h2 := getB_range l (i + 1)
  unfold unitB
  repeat' split
  all_goals omega

set_option maxRecDepth 100000 in
set_option maxHeartbeats 4000000 in
theorem piece_pairs5 (s : ByteArray) (m : Int) (b : UInt8) (r : List UInt8) (w : World) (hb : s.data.toList = b :: r) :
    Calls Tryd.prog 72 #[.int .i64 5, .string s, .int .i64 m] w fun e w' => AnsP w (Pl.pPairs (((5 : Int)) == 5) (b :: r)).1 (Pl.pPairs (((5 : Int)) == 5) (b :: r)).2 0 e w' := by
  have hs0 : s.data.toList.length = s.size := by simp
  have hpos : 0 < s.size := by rw [← hs0, hb]; simp
  rw [Pl.pPairs_eq]
  rw [← hb]
  obtain ⟨y, hy⟩ : ∃ y : Nat, b.toNat = y := ⟨_, rfl⟩
  have hix : ∀ h : 0 < s.size, (s[0]'h).toNat = y := fun h => by
    rw [← hy]
    show (s.data.toList[0]'(by simpa using h)).toNat = _
    simp [hb]
  have hy2 : (y : Int) ≤ 255 := by have := b.toNat_lt; omega
  have hwb : IntKind.i64.wrap (y : Int) = (y : Int) := by rw [IntKind.wrap_i64]; omega
  rw [hs0]
  have hu : -1 ≤ unitB ((5 : Int) == 5) s.data.toList 0 ∧ unitB ((5 : Int) == 5) s.data.toList 0 ≤ 65535 := unitB_range _ _ _
  have hz : -1 ≤ unitB ((5 : Int) == 5) s.data.toList 2 ∧ unitB ((5 : Int) == 5) s.data.toList 2 ≤ 65535 := unitB_range _ _ _
  have HU : Hid (∀ (E S G : Nat) (W : World), W.cell? ⟨E, 0, none⟩ = some (.int .i64 5) → W.cell? ⟨S, 0, none⟩ = some (.string s) → W.cell? ⟨G, 0, none⟩ = some (.func (.func 93) #[] #[.pointer (some ⟨S, 0, none⟩)]) → Calls Tryd.prog 95 #[.int .i64 0, .pointer (some ⟨G, 0, none⟩), .pointer (some ⟨E, 0, none⟩)] W fun r w' => r = .returned (.int .i64 (unitB ((5 : Int) == 5) s.data.toList 0)) ∧ Drew W w') := Lib.hid fun E S G W h1 h2 h3 => unit_any s 5 E S G 0 0 W rfl (by omega) h1 h2 h3
  have HZ : Hid (∀ (E S G : Nat) (W : World), W.cell? ⟨E, 0, none⟩ = some (.int .i64 5) → W.cell? ⟨S, 0, none⟩ = some (.string s) → W.cell? ⟨G, 0, none⟩ = some (.func (.func 93) #[] #[.pointer (some ⟨S, 0, none⟩)]) → Calls Tryd.prog 95 #[.int .i64 2, .pointer (some ⟨G, 0, none⟩), .pointer (some ⟨E, 0, none⟩)] W fun r w' => r = .returned (.int .i64 (unitB ((5 : Int) == 5) s.data.toList 2)) ∧ Drew W w') := Lib.hid fun E S G W h1 h2 h3 => unit_any s 5 E S G 2 2 W rfl (by omega) h1 h2 h3
  obtain ⟨u, hu2⟩ : ∃ u, unitB ((5 : Int) == 5) s.data.toList 0 = u := ⟨_, rfl⟩
  obtain ⟨z, hz2⟩ : ∃ z, unitB ((5 : Int) == 5) s.data.toList 2 = z := ⟨_, rfl⟩
  rw [hu2] at hu HU ⊢
  rw [hz2] at hz HZ ⊢
  obtain ⟨hu0, hu1⟩ := hu
  obtain ⟨hz0, hz1⟩ := hz
  clear hu2 hz2 hy hb hs0
  by_cases h1 : u < 0
  · rw [if_pos h1]
    go_enter Tryd.func72, Tryd.ntmps72
    go_wp2_with fail
    have P1 := pb_lay w s 5
    generalize World.alloc _ _ = W at P1 ⊢
    have e0 := P1.e0
    have s0 := P1.s0
    have g0 := P1.g0
    have HP := Lib.hid P1
    clear P1
    refine (HU.out _ _ _ _ e0 s0 g0).mono ?_
    rintro r3 w3 ⟨rfl, hd3⟩
    have P3 := HP.out.drew hd3
    clear hd3 e0 s0 g0 HP
    have e0 := P3.e0
    have s0 := P3.s0
    have g0 := P3.g0
    have HP := Lib.hid P3
    clear P3
    go_wp2_with fail
    refine bodyPost_ret (by simp [results, Tryd.results72, go_sem]; rfl) rfl ?_
    exact HP.out.ret_bad 1 0
  rw [if_neg h1]
  have h1n : 0 ≤ u := by omega
  by_cases h2 : 56320 ≤ u ∧ u ≤ 57343
  · rw [if_pos h2]
    go_enter Tryd.func72, Tryd.ntmps72
    go_wp2_with fail
    have P1 := pb_lay w s 5
    generalize World.alloc _ _ = W at P1 ⊢
    have e0 := P1.e0
    have s0 := P1.s0
    have g0 := P1.g0
    have HP := Lib.hid P1
    clear P1
    refine (HU.out _ _ _ _ e0 s0 g0).mono ?_
    rintro r3 w3 ⟨rfl, hd3⟩
    have P3 := HP.out.drew hd3
    clear hd3 e0 s0 g0 HP
    have e0 := P3.e0
    have s0 := P3.s0
    have g0 := P3.g0
    have HP := Lib.hid P3
    clear P3
    go_wp2_with fail
    refine (in_yes u 56320 57343 _ (by omega) (by omega)).mono ?_
    rintro r2 w2 ⟨rfl, hw2⟩
    subst hw2
    go_wp2_with fail
    refine bodyPost_ret (by simp [results, Tryd.results72, go_sem]; rfl) rfl ?_
    exact HP.out.ret_bad 2 0
  rw [if_neg h2]
  by_cases h3 : ¬ (55296 ≤ u ∧ u ≤ 56319)
  · rw [if_pos h3]
    go_enter Tryd.func72, Tryd.ntmps72
    go_wp2_with fail
    have P1 := pb_lay w s 5
    generalize World.alloc _ _ = W at P1 ⊢
    have e0 := P1.e0
    have s0 := P1.s0
    have g0 := P1.g0
    have HP := Lib.hid P1
    clear P1
    refine (HU.out _ _ _ _ e0 s0 g0).mono ?_
    rintro r3 w3 ⟨rfl, hd3⟩
    have P3 := HP.out.drew hd3
    clear hd3 e0 s0 g0 HP
    have e0 := P3.e0
    have s0 := P3.s0
    have g0 := P3.g0
    have HP := Lib.hid P3
    clear P3
    go_wp2_with fail
    refine (in_no u 56320 57343 _ (by omega)).mono ?_
    rintro r2 w2 ⟨rfl, hw2⟩
    subst hw2
    go_wp2_with fail
    refine (in_no u 55296 56319 _ (by omega)).mono ?_
    rintro r2 w2 ⟨rfl, hw2⟩
    subst hw2
    go_wp2_with fail
    refine bodyPost_ret (by simp [results, Tryd.results72, go_sem]; rfl) rfl ?_
    exact HP.out.ret_new (u) 2 0
  rw [if_neg h3]
  have h3a : 55296 ≤ u := by omega
  have h3b : u ≤ 56319 := by omega
  by_cases h4 : 56320 ≤ z ∧ z ≤ 57343
  · rw [if_pos h4]
    go_enter Tryd.func72, Tryd.ntmps72
    go_wp2_with fail
    have P1 := pb_lay w s 5
    generalize World.alloc _ _ = W at P1 ⊢
    have e0 := P1.e0
    have s0 := P1.s0
    have g0 := P1.g0
    have HP := Lib.hid P1
    clear P1
    refine (HU.out _ _ _ _ e0 s0 g0).mono ?_
    rintro r3 w3 ⟨rfl, hd3⟩
    have P3 := HP.out.drew hd3
    clear hd3 e0 s0 g0 HP
    have e0 := P3.e0
    have s0 := P3.s0
    have g0 := P3.g0
    have HP := Lib.hid P3
    clear P3
    go_wp2_with fail
    refine (in_no u 56320 57343 _ (by omega)).mono ?_
    rintro r2 w2 ⟨rfl, hw2⟩
    subst hw2
    go_wp2_with fail
    refine (in_yes u 55296 56319 _ (by omega) (by omega)).mono ?_
    rintro r2 w2 ⟨rfl, hw2⟩
    subst hw2
    go_wp2_with fail
    refine (HZ.out _ _ _ _ e0 s0 g0).mono ?_
    rintro r4 w4 ⟨rfl, hd4⟩
    have P4 := HP.out.drew hd4
    clear hd4 e0 s0 g0 HP
    have e0 := P4.e0
    have s0 := P4.s0
    have g0 := P4.g0
    have HP := Lib.hid P4
    clear P4
    go_wp2_with fail
    refine (in_yes z 56320 57343 _ (by omega) (by omega)).mono ?_
    rintro r2 w2 ⟨rfl, hw2⟩
    subst hw2
    go_wp2_with fail
    refine (HZ.out _ _ _ _ e0 s0 g0).mono ?_
    rintro r5 w5 ⟨rfl, hd5⟩
    have P5 := HP.out.drew hd5
    clear hd5 e0 s0 g0 HP
    have e0 := P5.e0
    have s0 := P5.s0
    have g0 := P5.g0
    have HP := Lib.hid P5
    clear P5
    go_wp2_with fail
    refine bodyPost_ret (by simp [results, Tryd.results72, go_sem]; rfl) rfl ?_
    exact HP.out.ret_new (65536 + 1024 * (u - 55296) + z - 56320) 4 0
  rw [if_neg h4]
  by_cases h5 : z < 0
  · rw [if_pos h5]
    go_enter Tryd.func72, Tryd.ntmps72
    go_wp2_with fail
    have P1 := pb_lay w s 5
    generalize World.alloc _ _ = W at P1 ⊢
    have e0 := P1.e0
    have s0 := P1.s0
    have g0 := P1.g0
    have HP := Lib.hid P1
    clear P1
    refine (HU.out _ _ _ _ e0 s0 g0).mono ?_
    rintro r3 w3 ⟨rfl, hd3⟩
    have P3 := HP.out.drew hd3
    clear hd3 e0 s0 g0 HP
    have e0 := P3.e0
    have s0 := P3.s0
    have g0 := P3.g0
    have HP := Lib.hid P3
    clear P3
    go_wp2_with fail
    refine (in_no u 56320 57343 _ (by omega)).mono ?_
    rintro r2 w2 ⟨rfl, hw2⟩
    subst hw2
    go_wp2_with fail
    refine (in_yes u 55296 56319 _ (by omega) (by omega)).mono ?_
    rintro r2 w2 ⟨rfl, hw2⟩
    subst hw2
    go_wp2_with fail
    refine (HZ.out _ _ _ _ e0 s0 g0).mono ?_
    rintro r4 w4 ⟨rfl, hd4⟩
    have P4 := HP.out.drew hd4
    clear hd4 e0 s0 g0 HP
    have e0 := P4.e0
    have s0 := P4.s0
    have g0 := P4.g0
    have HP := Lib.hid P4
    clear P4
    go_wp2_with fail
    refine (in_no z 56320 57343 _ (by omega)).mono ?_
    rintro r2 w2 ⟨rfl, hw2⟩
    subst hw2
    go_wp2_with fail
    refine (HZ.out _ _ _ _ e0 s0 g0).mono ?_
    rintro r5 w5 ⟨rfl, hd5⟩
    have P5 := HP.out.drew hd5
    clear hd5 e0 s0 g0 HP
    have e0 := P5.e0
    have s0 := P5.s0
    have g0 := P5.g0
    have HP := Lib.hid P5
    clear P5
    go_wp2_with fail
    go_quiet (fail)
    go_wp2_with fail
    refine bodyPost_ret (by simp [results, Tryd.results72, go_sem]; rfl) rfl ?_
    exact (HP.out.drew ⟨_, rfl⟩).ret_bad s.size 0
  · rw [if_neg h5]
    have h5n : 0 ≤ z := by omega
    go_enter Tryd.func72, Tryd.ntmps72
    go_wp2_with fail
    have P1 := pb_lay w s 5
    generalize World.alloc _ _ = W at P1 ⊢
    have e0 := P1.e0
    have s0 := P1.s0
    have g0 := P1.g0
    have HP := Lib.hid P1
    clear P1
    refine (HU.out _ _ _ _ e0 s0 g0).mono ?_
    rintro r3 w3 ⟨rfl, hd3⟩
    have P3 := HP.out.drew hd3
    clear hd3 e0 s0 g0 HP
    have e0 := P3.e0
    have s0 := P3.s0
    have g0 := P3.g0
    have HP := Lib.hid P3
    clear P3
    go_wp2_with fail
    refine (in_no u 56320 57343 _ (by omega)).mono ?_
    rintro r2 w2 ⟨rfl, hw2⟩
    subst hw2
    go_wp2_with fail
    refine (in_yes u 55296 56319 _ (by omega) (by omega)).mono ?_
    rintro r2 w2 ⟨rfl, hw2⟩
    subst hw2
    go_wp2_with fail
    refine (HZ.out _ _ _ _ e0 s0 g0).mono ?_
    rintro r4 w4 ⟨rfl, hd4⟩
    have P4 := HP.out.drew hd4
    clear hd4 e0 s0 g0 HP
    have e0 := P4.e0
    have s0 := P4.s0
    have g0 := P4.g0
    have HP := Lib.hid P4
    clear P4
    go_wp2_with fail
    refine (in_no z 56320 57343 _ (by omega)).mono ?_
    rintro r2 w2 ⟨rfl, hw2⟩
    subst hw2
    go_wp2_with fail
    refine (HZ.out _ _ _ _ e0 s0 g0).mono ?_
    rintro r5 w5 ⟨rfl, hd5⟩
    have P5 := HP.out.drew hd5
    clear hd5 e0 s0 g0 HP
    have e0 := P5.e0
    have s0 := P5.s0
    have g0 := P5.g0
    have HP := Lib.hid P5
    clear P5
    go_wp2_with fail
    refine bodyPost_ret (by simp [results, Tryd.results72, go_sem]; rfl) rfl ?_
    exact HP.out.ret_bad 2 0
end Go.Proofs.YtefohnbmifblkaaDoor
