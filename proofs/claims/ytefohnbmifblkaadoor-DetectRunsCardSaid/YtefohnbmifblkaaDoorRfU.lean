/-
  The references' piece: shift.
-/
import Derived.Test.YtefohnbmifblkaaDoorRfQ
import Derived.Test.YtefohnbmifblkaaDoorRfD
import Derived.Deep.RegionWith
namespace Go.Proofs.YtefohnbmifblkaaDoor
open Go.RowKit

set_option maxRecDepth 100000 in
set_option maxHeartbeats 16000000 in
theorem piece_shift (s : ByteArray) (m : Int) (b : UInt8) (r : List UInt8) (w : World) (hb : s.data.toList = b :: r) (hm : m = 0 ∨ m = 1) :
    Calls Tryd.prog 72 #[.int .i64 2, .string s, .int .i64 m] w fun e w' => AnsP w (Pl.pShift m (b :: r)).1 (Pl.pShift m (b :: r)).2.1 (Pl.pShift m (b :: r)).2.2 e w' := by
  have hs0 : s.data.toList.length = s.size := by simp
  have hpos : 0 < s.size := by rw [← hs0, hb]; simp
  rw [Pl.pShift_eq]
  rw [← hb]
  obtain ⟨y, hy⟩ : ∃ y : Nat, b.toNat = y := ⟨_, rfl⟩
  have hix : ∀ h : 0 < s.size, (s[0]'h).toNat = y := fun h => by
    rw [← hy]
    show (s.data.toList[0]'(by simpa using h)).toNat = _
    simp [hb]
  have hy2 : (y : Int) ≤ 255 := by have := b.toNat_lt; omega
  have hwb : IntKind.i64.wrap (y : Int) = (y : Int) := by rw [IntKind.wrap_i64]; omega
  rw [show Pl.byte b = (y : Int) by unfold Pl.byte; rw [hy]]
  have hx := getB_range s.data.toList 1
  have HX : Hid (∀ (S : Nat) (W : World), W.cell? ⟨S, 0, none⟩ = some (.string s) → Calls Tryd.prog 93 #[.int .i64 1, .pointer (some ⟨S, 0, none⟩)] W fun e w' => e = .returned (.int .i64 (getB s.data.toList 1)) ∧ W = w') := Lib.hid fun S W h => get_any s S 1 1 W rfl h
  obtain ⟨x, hx2⟩ : ∃ x, getB s.data.toList 1 = x := ⟨_, rfl⟩
  rw [hx2] at hx HX ⊢
  obtain ⟨hx0, hx1⟩ := hx
  clear hx2
  obtain ⟨P1, hP1⟩ : ∃ P, ([27, 40, 66] : List UInt8).isPrefixOf s.data.toList = P := ⟨_, rfl⟩
  obtain ⟨P2, hP2⟩ : ∃ P, ([27, 36, 66] : List UInt8).isPrefixOf s.data.toList = P := ⟨_, rfl⟩
  have HH1 : Hid (∀ W, Calls Tryd.prog 45 #[.string s, .string ⟨#[27, 40, 66]⟩] W fun e w' => e = .returned (.bool P1) ∧ W = w') := Lib.hid fun W => (Tryd.strings_HasPrefix _ _ W).mono fun _ _ ⟨h1, h2⟩ => ⟨h1.trans (by rw [← hP1]; rfl), h2.symm⟩
  have HH2 : Hid (∀ W, Calls Tryd.prog 45 #[.string s, .string ⟨#[27, 36, 66]⟩] W fun e w' => e = .returned (.bool P2) ∧ W = w') := Lib.hid fun W => (Tryd.strings_HasPrefix _ _ W).mono fun _ _ ⟨h1, h2⟩ => ⟨h1.trans (by rw [← hP2]; rfl), h2.symm⟩
  rw [hP1, hP2]
  clear hy hb hs0 hP1 hP2
  cases P1
  case true =>
    rw [if_pos rfl]
    go_enter Tryd.func72, Tryd.ntmps72
    go_wp2_with fail
    have P1 := pb_lay w s 2
    generalize World.alloc _ _ = W at P1 ⊢
    have e0 := P1.e0
    have s0 := P1.s0
    have g0 := P1.g0
    have HP := Lib.hid P1
    clear P1
    refine (HH1.out _).mono ?_
    rintro q1 v1 ⟨rfl, hv1⟩
    subst hv1
    go_wp2_with fail
    refine bodyPost_ret (by simp [results, Tryd.results72, go_sem]; rfl) rfl ?_
    exact HP.out.ret_nil 3 0
  rw [if_neg (by simp)]
  cases P2
  case true =>
    rw [if_pos rfl]
    go_enter Tryd.func72, Tryd.ntmps72
    go_wp2_with fail
    have P1 := pb_lay w s 2
    generalize World.alloc _ _ = W at P1 ⊢
    have e0 := P1.e0
    have s0 := P1.s0
    have g0 := P1.g0
    have HP := Lib.hid P1
    clear P1
    refine (HH1.out _).mono ?_
    rintro q1 v1 ⟨rfl, hv1⟩
    subst hv1
    go_wp2_with fail
    refine (HH2.out _).mono ?_
    rintro q2 v2 ⟨rfl, hv2⟩
    subst hv2
    go_wp2_with fail
    refine bodyPost_ret (by simp [results, Tryd.results72, go_sem]; rfl) rfl ?_
    exact HP.out.ret_nil 3 1
  rw [if_neg (by simp)]
  by_cases h1 : (y : Int) = 27
  · rw [if_pos h1]
    go_enter Tryd.func72, Tryd.ntmps72
    go_wp2_with fail
    have P1 := pb_lay w s 2
    generalize World.alloc _ _ = W at P1 ⊢
    have e0 := P1.e0
    have s0 := P1.s0
    have g0 := P1.g0
    have HP := Lib.hid P1
    clear P1
    refine (HH1.out _).mono ?_
    rintro q1 v1 ⟨rfl, hv1⟩
    subst hv1
    go_wp2_with fail
    refine (HH2.out _).mono ?_
    rintro q2 v2 ⟨rfl, hv2⟩
    subst hv2
    go_wp2_with fail
    refine bodyPost_ret (by simp [results, Tryd.results72, go_sem]; rfl) rfl ?_
    exact HP.out.ret_bad 1 m
  rw [if_neg h1]
  have h1b : ((y : Int) == 27) = false := beq_eq_false_iff_ne.2 h1
  rcases hm with rfl | rfl
  · by_cases h2 : 127 < (y : Int)
    · rw [if_pos ⟨rfl, .inl h2⟩]
      go_enter Tryd.func72, Tryd.ntmps72
      go_wp2_with fail
      have P1 := pb_lay w s 2
      generalize World.alloc _ _ = W at P1 ⊢
      have e0 := P1.e0
      have s0 := P1.s0
      have g0 := P1.g0
      have HP := Lib.hid P1
      clear P1
      refine (HH1.out _).mono ?_
      rintro q1 v1 ⟨rfl, hv1⟩
      subst hv1
      go_wp2_with fail
      refine (HH2.out _).mono ?_
      rintro q2 v2 ⟨rfl, hv2⟩
      subst hv2
      go_wp2_with fail
      refine bodyPost_ret (by simp [results, Tryd.results72, go_sem]; rfl) rfl ?_
      exact HP.out.ret_bad 1 0
    have h2n : (y : Int) ≤ 127 := by omega
    by_cases h3 : (y : Int) = 14
    · rw [if_pos ⟨rfl, .inr (.inl h3)⟩]
      go_enter Tryd.func72, Tryd.ntmps72
      go_wp2_with fail
      have P1 := pb_lay w s 2
      generalize World.alloc _ _ = W at P1 ⊢
      have e0 := P1.e0
      have s0 := P1.s0
      have g0 := P1.g0
      have HP := Lib.hid P1
      clear P1
      refine (HH1.out _).mono ?_
      rintro q1 v1 ⟨rfl, hv1⟩
      subst hv1
      go_wp2_with fail
      refine (HH2.out _).mono ?_
      rintro q2 v2 ⟨rfl, hv2⟩
      subst hv2
      go_wp2_with fail
      refine bodyPost_ret (by simp [results, Tryd.results72, go_sem]; rfl) rfl ?_
      exact HP.out.ret_bad 1 0
    have h3b : ((y : Int) == 14) = false := beq_eq_false_iff_ne.2 h3
    by_cases h4 : (y : Int) = 15
    · rw [if_pos ⟨rfl, .inr (.inr h4)⟩]
      go_enter Tryd.func72, Tryd.ntmps72
      go_wp2_with fail
      have P1 := pb_lay w s 2
      generalize World.alloc _ _ = W at P1 ⊢
      have e0 := P1.e0
      have s0 := P1.s0
      have g0 := P1.g0
      have HP := Lib.hid P1
      clear P1
      refine (HH1.out _).mono ?_
      rintro q1 v1 ⟨rfl, hv1⟩
      subst hv1
      go_wp2_with fail
      refine (HH2.out _).mono ?_
      rintro q2 v2 ⟨rfl, hv2⟩
      subst hv2
      go_wp2_with fail
      refine bodyPost_ret (by simp [results, Tryd.results72, go_sem]; rfl) rfl ?_
      exact HP.out.ret_bad 1 0
    have h4b : ((y : Int) == 15) = false := beq_eq_false_iff_ne.2 h4
    rw [if_neg (by omega), if_pos rfl]
    go_enter Tryd.func72, Tryd.ntmps72
    go_wp2_with fail
    have P1 := pb_lay w s 2
    generalize World.alloc _ _ = W at P1 ⊢
    have e0 := P1.e0
    have s0 := P1.s0
    have g0 := P1.g0
    have HP := Lib.hid P1
    clear P1
    refine (HH1.out _).mono ?_
    rintro q1 v1 ⟨rfl, hv1⟩
    subst hv1
    go_wp2_with fail
    refine (HH2.out _).mono ?_
    rintro q2 v2 ⟨rfl, hv2⟩
    subst hv2
    go_wp2_with fail
    refine bodyPost_ret (by simp [results, Tryd.results72, go_sem]; rfl) rfl ?_
    exact HP.out.ret_new ((y : Int)) 1 0
  · rw [if_neg (by omega), if_neg (by omega)]
    by_cases h2 : (y : Int) = 10
    · rw [if_pos h2]
      go_enter Tryd.func72, Tryd.ntmps72
      go_wp2_with fail
      have P1 := pb_lay w s 2
      generalize World.alloc _ _ = W at P1 ⊢
      have e0 := P1.e0
      have s0 := P1.s0
      have g0 := P1.g0
      have HP := Lib.hid P1
      clear P1
      refine (HH1.out _).mono ?_
      rintro q1 v1 ⟨rfl, hv1⟩
      subst hv1
      go_wp2_with fail
      refine (HH2.out _).mono ?_
      rintro q2 v2 ⟨rfl, hv2⟩
      subst hv2
      go_wp2_with fail
      refine bodyPost_ret (by simp [results, Tryd.results72, go_sem]; rfl) rfl ?_
      exact HP.out.ret_new (10) 1 0
    have h2b : ((y : Int) == 10) = false := beq_eq_false_iff_ne.2 h2
    rw [if_neg h2]
    by_cases h3 : ¬ (33 ≤ (y : Int) ∧ (y : Int) ≤ 126)
    · rw [if_pos h3]
      go_enter Tryd.func72, Tryd.ntmps72
      go_wp2_with fail
      have P1 := pb_lay w s 2
      generalize World.alloc _ _ = W at P1 ⊢
      have e0 := P1.e0
      have s0 := P1.s0
      have g0 := P1.g0
      have HP := Lib.hid P1
      clear P1
      refine (HH1.out _).mono ?_
      rintro q1 v1 ⟨rfl, hv1⟩
      subst hv1
      go_wp2_with fail
      refine (HH2.out _).mono ?_
      rintro q2 v2 ⟨rfl, hv2⟩
      subst hv2
      go_wp2_with fail
      refine (in_no y 33 126 _ (by omega)).mono ?_
      rintro r2 w2 ⟨rfl, hw2⟩
      subst hw2
      go_wp2_with fail
      refine bodyPost_ret (by simp [results, Tryd.results72, go_sem]; rfl) rfl ?_
      exact HP.out.ret_bad 1 1
    have h3a : 33 ≤ (y : Int) := by omega
    have h3b : (y : Int) ≤ 126 := by omega
    rw [if_neg h3]
    by_cases h4 : 33 ≤ x ∧ x ≤ 126
    · rw [if_pos h4]
      go_enter Tryd.func72, Tryd.ntmps72
      go_wp2_with fail
      have P1 := pb_lay w s 2
      generalize World.alloc _ _ = W at P1 ⊢
      have e0 := P1.e0
      have s0 := P1.s0
      have g0 := P1.g0
      have HP := Lib.hid P1
      clear P1
      refine (HH1.out _).mono ?_
      rintro q1 v1 ⟨rfl, hv1⟩
      subst hv1
      go_wp2_with fail
      refine (HH2.out _).mono ?_
      rintro q2 v2 ⟨rfl, hv2⟩
      subst hv2
      go_wp2_with fail
      refine (in_yes y 33 126 _ (by omega) (by omega)).mono ?_
      rintro r2 w2 ⟨rfl, hw2⟩
      subst hw2
      go_wp2_with fail
      refine (HX.out _ _ s0).mono ?_
      rintro r1 w1 ⟨rfl, hw1⟩
      subst hw1
      go_wp2_with fail
      refine (in_yes x 33 126 _ (by omega) (by omega)).mono ?_
      rintro r2 w2 ⟨rfl, hw2⟩
      subst hw2
      go_wp2_with fail
      refine (HX.out _ _ s0).mono ?_
      rintro r1 w1 ⟨rfl, hw1⟩
      subst hw1
      go_wp2_with fail
      refine bodyPost_ret (by simp [results, Tryd.results72, go_sem]; rfl) rfl ?_
      exact HP.out.ret_new (12288 + 94 * ((y : Int) - 33) + x - 33) 2 1
    rw [if_neg h4]
    by_cases h5 : x = 27
    · subst h5
      rw [if_pos (.inl rfl)]
      go_enter Tryd.func72, Tryd.ntmps72
      go_wp2_with fail
      have P1 := pb_lay w s 2
      generalize World.alloc _ _ = W at P1 ⊢
      have e0 := P1.e0
      have s0 := P1.s0
      have g0 := P1.g0
      have HP := Lib.hid P1
      clear P1
      refine (HH1.out _).mono ?_
      rintro q1 v1 ⟨rfl, hv1⟩
      subst hv1
      go_wp2_with fail
      refine (HH2.out _).mono ?_
      rintro q2 v2 ⟨rfl, hv2⟩
      subst hv2
      go_wp2_with fail
      refine (in_yes y 33 126 _ (by omega) (by omega)).mono ?_
      rintro r2 w2 ⟨rfl, hw2⟩
      subst hw2
      go_wp2_with fail
      refine (HX.out _ _ s0).mono ?_
      rintro r1 w1 ⟨rfl, hw1⟩
      subst hw1
      go_wp2_with fail
      refine (in_no 27 33 126 _ (by omega)).mono ?_
      rintro r2 w2 ⟨rfl, hw2⟩
      subst hw2
      go_wp2_with fail
      refine (HX.out _ _ s0).mono ?_
      rintro r1 w1 ⟨rfl, hw1⟩
      subst hw1
      go_wp2_with fail
      refine bodyPost_ret (by simp [results, Tryd.results72, go_sem]; rfl) rfl ?_
      exact HP.out.ret_bad 1 1
    have h5b : (x == 27) = false := beq_eq_false_iff_ne.2 h5
    by_cases h6 : x < 0
    · rw [if_pos (.inr h6)]
      go_enter Tryd.func72, Tryd.ntmps72
      go_wp2_with fail
      have P1 := pb_lay w s 2
      generalize World.alloc _ _ = W at P1 ⊢
      have e0 := P1.e0
      have s0 := P1.s0
      have g0 := P1.g0
      have HP := Lib.hid P1
      clear P1
      refine (HH1.out _).mono ?_
      rintro q1 v1 ⟨rfl, hv1⟩
      subst hv1
      go_wp2_with fail
      refine (HH2.out _).mono ?_
      rintro q2 v2 ⟨rfl, hv2⟩
      subst hv2
      go_wp2_with fail
      refine (in_yes y 33 126 _ (by omega) (by omega)).mono ?_
      rintro r2 w2 ⟨rfl, hw2⟩
      subst hw2
      go_wp2_with fail
      refine (HX.out _ _ s0).mono ?_
      rintro r1 w1 ⟨rfl, hw1⟩
      subst hw1
      go_wp2_with fail
      refine (in_no x 33 126 _ (by omega)).mono ?_
      rintro r2 w2 ⟨rfl, hw2⟩
      subst hw2
      go_wp2_with fail
      refine (HX.out _ _ s0).mono ?_
      rintro r1 w1 ⟨rfl, hw1⟩
      subst hw1
      go_wp2_with fail
      refine (HX.out _ _ s0).mono ?_
      rintro r1 w1 ⟨rfl, hw1⟩
      subst hw1
      go_wp2_with fail
      refine bodyPost_ret (by simp [results, Tryd.results72, go_sem]; rfl) rfl ?_
      exact HP.out.ret_bad 1 1
    · rw [if_neg (by omega)]
      have h6n : 0 ≤ x := by omega
      go_enter Tryd.func72, Tryd.ntmps72
      go_wp2_with fail
      have P1 := pb_lay w s 2
      generalize World.alloc _ _ = W at P1 ⊢
      have e0 := P1.e0
      have s0 := P1.s0
      have g0 := P1.g0
      have HP := Lib.hid P1
      clear P1
      refine (HH1.out _).mono ?_
      rintro q1 v1 ⟨rfl, hv1⟩
      subst hv1
      go_wp2_with fail
      refine (HH2.out _).mono ?_
      rintro q2 v2 ⟨rfl, hv2⟩
      subst hv2
      go_wp2_with fail
      refine (in_yes y 33 126 _ (by omega) (by omega)).mono ?_
      rintro r2 w2 ⟨rfl, hw2⟩
      subst hw2
      go_wp2_with fail
      refine (HX.out _ _ s0).mono ?_
      rintro r1 w1 ⟨rfl, hw1⟩
      subst hw1
      go_wp2_with fail
      refine (in_no x 33 126 _ (by omega)).mono ?_
      rintro r2 w2 ⟨rfl, hw2⟩
      subst hw2
      go_wp2_with fail
      refine (HX.out _ _ s0).mono ?_
      rintro r1 w1 ⟨rfl, hw1⟩
      subst hw1
      go_wp2_with fail
      refine (HX.out _ _ s0).mono ?_
      rintro r1 w1 ⟨rfl, hw1⟩
      subst hw1
      go_wp2_with fail
      refine bodyPost_ret (by simp [results, Tryd.results72, go_sem]; rfl) rfl ?_
      exact HP.out.ret_bad 2 1
end Go.Proofs.YtefohnbmifblkaaDoor
