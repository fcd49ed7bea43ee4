/-
  The references' piece: utf, three bytes.
-/
import Derived.Test.YtefohnbmifblkaaDoorRfV
import Derived.Test.YtefohnbmifblkaaDoorRfD
import Derived.Deep.RegionWith
namespace Go.Proofs.YtefohnbmifblkaaDoor
open Go.RowKit

set_option maxRecDepth 100000 in
set_option maxHeartbeats 4000000 in
theorem utf_three_a (s : ByteArray) (m : Int) (b : UInt8) (r : List UInt8) (w : World) (hb : s.data.toList = b :: r) (h0 : Pl.byte b = 224) :
    Calls Tryd.prog 72 #[.int .i64 1, .string s, .int .i64 m] w fun e w' => AnsP w (Pl.pUtf (b :: r)).1 (Pl.pUtf (b :: r)).2 0 e w' := by
  have hs0 : s.data.toList.length = s.size := by simp
  have hpos : 0 < s.size := by rw [← hs0, hb]; simp
  obtain ⟨y, hy⟩ : ∃ y : Nat, b.toNat = y := ⟨_, rfl⟩
  have hix : ∀ h : 0 < s.size, (s[0]'h).toNat = y := fun h => by
    rw [← hy]
    show (s.data.toList[0]'(by simpa using h)).toNat = _
    simp [hb]
  have hy2 : (y : Int) ≤ 255 := by have := b.toNat_lt; omega
  have hwb : IntKind.i64.wrap (y : Int) = (y : Int) := by rw [IntKind.wrap_i64]; omega
  have hyb : Pl.byte b = (y : Int) := by unfold Pl.byte; rw [hy]
  have hr : r = s.data.toList.drop 1 := by rw [hb]; rfl
  obtain ⟨R, hR⟩ : ∃ R, Pl.pUtf (b :: r) = R := ⟨_, rfl⟩
  rw [hyb] at h0
  have HR0 : Hid (((Pl.pTail (3 - 1) ((y : Int) % 16) 160 191 (s.data.toList.drop 1)).1, (Pl.pTail (3 - 1) ((y : Int) % 16) 160 191 (s.data.toList.drop 1)).2 + 1) = R) := Lib.hid (by
    rw [← hR, ← hr]
    unfold Pl.pUtf
    dsimp only
    rw [hyb]
    rw [if_neg (by omega), if_neg (by omega), if_pos (by omega), if_pos h0, if_neg (by omega)])
  rw [hR]
  clear hR hr hyb hy hb hs0
  have h0a : 224 ≤ (y : Int) := by omega
  have h0b : (y : Int) ≤ 224 := by omega
  have h0e : ((y : Int) == 224) = true := by rw [h0]; rfl
  clear h0
  have hn237 : ((y : Int) == 237) = false := beq_eq_false_iff_ne.2 (by omega)
  have hn240 : ((y : Int) == 240) = false := beq_eq_false_iff_ne.2 (by omega)
  have hn244 : ((y : Int) == 244) = false := beq_eq_false_iff_ne.2 (by omega)
  go_enter Tryd.func72, Tryd.ntmps72
  go_wp2_with fail
  have P1 := pb_lay w s 1
  generalize World.alloc _ _ = W at P1 ⊢
  have e0 := P1.e0
  have s0 := P1.s0
  have g0 := P1.g0
  have HP := Lib.hid P1
  clear P1
  refine (in_no y 194 223 _ (by omega)).mono ?_
  rintro r2 w2 ⟨rfl, hw2⟩
  subst hw2
  go_wp2_with fail
  refine (in_yes y 224 239 _ (by omega) (by omega)).mono ?_
  rintro r2 w2 ⟨rfl, hw2⟩
  subst hw2
  go_wp2_with fail
  go_loopw [14, 15, 16, 17] (fun lo hi code i wr => W = wr ∧ ∃ (k : Nat) (l1 h1 c1 : Int), 1 ≤ k ∧ k ≤ 3 ∧ lo = .int .i64 l1 ∧ hi = .int .i64 h1 ∧ code = .int .i64 c1 ∧ i = .int .i64 k ∧ 128 ≤ l1 ∧ h1 ≤ 191 ∧ 0 ≤ c1 ∧ ((k = 1 ∧ c1 ≤ 31) ∨ (k = 2 ∧ c1 ≤ 2047) ∨ (k = 3 ∧ c1 ≤ 131071) ∨ (k = 4 ∧ c1 ≤ 8388607)) ∧ Hid (((Pl.pTail (3 - k) c1 l1 h1 (s.data.toList.drop k)).1, (Pl.pTail (3 - k) c1 l1 h1 (s.data.toList.drop k)).2 + k) = R)) (fun _ _ _ i _ => 4 - (intOf i).toNat)
  case atStart => exact ⟨rfl, 1, 160, 191, (y : Int) % 16, by omega, by omega, rfl, rfl, by go_num, rfl, by omega, by omega, by omega, .inl ⟨rfl, by omega⟩, HR0⟩
  case round =>
    obtain ⟨rfl, k, l1, h1, c1, hk1, hkn, rfl, rfl, rfl, rfl, hl1, hh1, hc0, hc1, HI⟩ := hrel
    by_cases hlt : k < 3
    · have hlt2 : (k : Int) < 3 := by omega
      have hxr := getB_range s.data.toList k
      have HX : Hid (∀ (S : Nat) (W : World), W.cell? ⟨S, 0, none⟩ = some (.string s) → Calls Tryd.prog 93 #[.int .i64 (k : Int), .pointer (some ⟨S, 0, none⟩)] W fun e w' => e = .returned (.int .i64 (getB s.data.toList k)) ∧ W = w') := Lib.hid fun S W h => get_any s S (k : Int) k W rfl h
      have HIn := Lib.hid (fun h => pTail_in (3 - k - 1) c1 l1 h1 s.data.toList k (by omega) h)
      have HOut := Lib.hid (fun h => pTail_out (3 - k - 1) c1 l1 h1 s.data.toList k h)
      rw [show 3 - k - 1 + 1 = 3 - k by omega] at HIn HOut
      obtain ⟨x, hx2⟩ : ∃ x, getB s.data.toList k = x := ⟨_, rfl⟩
      rw [hx2] at hxr HX HIn HOut
      obtain ⟨hx0, hx1⟩ := hxr
      clear hx2
      by_cases hin : l1 ≤ x ∧ x ≤ h1
      · obtain ⟨hin0, hin1⟩ := hin
        have HN : Hid (((Pl.pTail (3 - (k + 1)) (64 * c1 + x - 128) 128 191 (s.data.toList.drop (k + 1))).1, (Pl.pTail (3 - (k + 1)) (64 * c1 + x - 128) 128 191 (s.data.toList.drop (k + 1))).2 + (k + 1)) = R) := Lib.hid (by
          have h := HI.out
          rw [HIn.out ⟨hin0, hin1⟩, show 3 - k - 1 = 3 - (k + 1) by omega] at h
          rw [← h]
          simp only [Prod.mk.injEq, true_and]
          omega)
        clear HI HIn HOut
        go_wp2_with fail
        refine (HX.out _ _ s0).mono ?_
        rintro q1 v1 ⟨rfl, hv1⟩
        subst hv1
        go_wp2_with fail
        refine (in_yes x l1 h1 _ hin0 hin1).mono ?_
        rintro q2 v2 ⟨rfl, hv2⟩
        subst hv2
        go_wp2_with fail
        refine (HX.out _ _ s0).mono ?_
        rintro q3 v3 ⟨rfl, hv3⟩
        subst hv3
        clear HX
        go_wp2_with fail
        go_roundw
        case rel => exact ⟨trivial, k + 1, 128, 191, 64 * c1 + x - 128, by omega, by omega, rfl, rfl, by go_num, by go_num, by omega, by omega, by omega, by omega, HN⟩
        case measure => simp [intOf]; omega
      · have hR : R = ([-1], k) := by
          rw [← HI.out, HOut.out hin]
          simp
        go_wp2_with fail
        refine (HX.out _ _ s0).mono ?_
        rintro q1 v1 ⟨rfl, hv1⟩
        subst hv1
        go_wp2_with fail
        refine (in_no x l1 h1 _ hin).mono ?_
        rintro q2 v2 ⟨rfl, hv2⟩
        subst hv2
        go_wp2_with fail
        refine bodyPost_ret (by simp [results, Tryd.results72, go_sem]; rfl) rfl ?_
        try rw [hR]
        exact HP.out.ret_bad k 0
    · have hkn2 : k = 3 := by omega
      have hR : R = ([c1], 3) := by
        rw [← HI.out, hkn2]
        rfl
      subst hkn2
      go_wp2_with fail
      refine bodyPost_ret (by simp [results, Tryd.results72, go_sem]; rfl) rfl ?_
      try rw [hR]
      exact HP.out.ret_new c1 3 0

set_option maxRecDepth 100000 in
set_option maxHeartbeats 4000000 in
theorem utf_three_b (s : ByteArray) (m : Int) (b : UInt8) (r : List UInt8) (w : World) (hb : s.data.toList = b :: r) (h0 : Pl.byte b = 237) :
    Calls Tryd.prog 72 #[.int .i64 1, .string s, .int .i64 m] w fun e w' => AnsP w (Pl.pUtf (b :: r)).1 (Pl.pUtf (b :: r)).2 0 e w' := by
  have hs0 : s.data.toList.length = s.size := by simp
  have hpos : 0 < s.size := by rw [← hs0, hb]; simp
  obtain ⟨y, hy⟩ : ∃ y : Nat, b.toNat = y := ⟨_, rfl⟩
  have hix : ∀ h : 0 < s.size, (s[0]'h).toNat = y := fun h => by
    rw [← hy]
    show (s.data.toList[0]'(by simpa using h)).toNat = _
    simp [hb]
  have hy2 : (y : Int) ≤ 255 := by have := b.toNat_lt; omega
  have hwb : IntKind.i64.wrap (y : Int) = (y : Int) := by rw [IntKind.wrap_i64]; omega
  have hyb : Pl.byte b = (y : Int) := by unfold Pl.byte; rw [hy]
  have hr : r = s.data.toList.drop 1 := by rw [hb]; rfl
  obtain ⟨R, hR⟩ : ∃ R, Pl.pUtf (b :: r) = R := ⟨_, rfl⟩
  rw [hyb] at h0
  have HR0 : Hid (((Pl.pTail (3 - 1) ((y : Int) % 16) 128 159 (s.data.toList.drop 1)).1, (Pl.pTail (3 - 1) ((y : Int) % 16) 128 159 (s.data.toList.drop 1)).2 + 1) = R) := Lib.hid (by
    rw [← hR, ← hr]
    unfold Pl.pUtf
    dsimp only
    rw [hyb]
    rw [if_neg (by omega), if_neg (by omega), if_pos (by omega), if_neg (by omega), if_pos h0])
  rw [hR]
  clear hR hr hyb hy hb hs0
  have h0a : 237 ≤ (y : Int) := by omega
  have h0b : (y : Int) ≤ 237 := by omega
  have h0e : ((y : Int) == 237) = true := by rw [h0]; rfl
  clear h0
  have hn224 : ((y : Int) == 224) = false := beq_eq_false_iff_ne.2 (by omega)
  have hn240 : ((y : Int) == 240) = false := beq_eq_false_iff_ne.2 (by omega)
  have hn244 : ((y : Int) == 244) = false := beq_eq_false_iff_ne.2 (by omega)
  go_enter Tryd.func72, Tryd.ntmps72
  go_wp2_with fail
  have P1 := pb_lay w s 1
  generalize World.alloc _ _ = W at P1 ⊢
  have e0 := P1.e0
  have s0 := P1.s0
  have g0 := P1.g0
  have HP := Lib.hid P1
  clear P1
  refine (in_no y 194 223 _ (by omega)).mono ?_
  rintro r2 w2 ⟨rfl, hw2⟩
  subst hw2
  go_wp2_with fail
  refine (in_yes y 224 239 _ (by omega) (by omega)).mono ?_
  rintro r2 w2 ⟨rfl, hw2⟩
  subst hw2
  go_wp2_with fail
  go_loopw [14, 15, 16, 17] (fun lo hi code i wr => W = wr ∧ ∃ (k : Nat) (l1 h1 c1 : Int), 1 ≤ k ∧ k ≤ 3 ∧ lo = .int .i64 l1 ∧ hi = .int .i64 h1 ∧ code = .int .i64 c1 ∧ i = .int .i64 k ∧ 128 ≤ l1 ∧ h1 ≤ 191 ∧ 0 ≤ c1 ∧ ((k = 1 ∧ c1 ≤ 31) ∨ (k = 2 ∧ c1 ≤ 2047) ∨ (k = 3 ∧ c1 ≤ 131071) ∨ (k = 4 ∧ c1 ≤ 8388607)) ∧ Hid (((Pl.pTail (3 - k) c1 l1 h1 (s.data.toList.drop k)).1, (Pl.pTail (3 - k) c1 l1 h1 (s.data.toList.drop k)).2 + k) = R)) (fun _ _ _ i _ => 4 - (intOf i).toNat)
  case atStart => exact ⟨rfl, 1, 128, 159, (y : Int) % 16, by omega, by omega, rfl, rfl, by go_num, rfl, by omega, by omega, by omega, .inl ⟨rfl, by omega⟩, HR0⟩
  case round =>
    obtain ⟨rfl, k, l1, h1, c1, hk1, hkn, rfl, rfl, rfl, rfl, hl1, hh1, hc0, hc1, HI⟩ := hrel
    by_cases hlt : k < 3
    · have hlt2 : (k : Int) < 3 := by omega
      have hxr := getB_range s.data.toList k
      have HX : Hid (∀ (S : Nat) (W : World), W.cell? ⟨S, 0, none⟩ = some (.string s) → Calls Tryd.prog 93 #[.int .i64 (k : Int), .pointer (some ⟨S, 0, none⟩)] W fun e w' => e = .returned (.int .i64 (getB s.data.toList k)) ∧ W = w') := Lib.hid fun S W h => get_any s S (k : Int) k W rfl h
      have HIn := Lib.hid (fun h => pTail_in (3 - k - 1) c1 l1 h1 s.data.toList k (by omega) h)
      have HOut := Lib.hid (fun h => pTail_out (3 - k - 1) c1 l1 h1 s.data.toList k h)
      rw [show 3 - k - 1 + 1 = 3 - k by omega] at HIn HOut
      obtain ⟨x, hx2⟩ : ∃ x, getB s.data.toList k = x := ⟨_, rfl⟩
      rw [hx2] at hxr HX HIn HOut
      obtain ⟨hx0, hx1⟩ := hxr
      clear hx2
      by_cases hin : l1 ≤ x ∧ x ≤ h1
      · obtain ⟨hin0, hin1⟩ := hin
        have HN : Hid (((Pl.pTail (3 - (k + 1)) (64 * c1 + x - 128) 128 191 (s.data.toList.drop (k + 1))).1, (Pl.pTail (3 - (k + 1)) (64 * c1 + x - 128) 128 191 (s.data.toList.drop (k + 1))).2 + (k + 1)) = R) := Lib.hid (by
          have h := HI.out
          rw [HIn.out ⟨hin0, hin1⟩, show 3 - k - 1 = 3 - (k + 1) by omega] at h
          rw [← h]
          simp only [Prod.mk.injEq, true_and]
          omega)
        clear HI HIn HOut
        go_wp2_with fail
        refine (HX.out _ _ s0).mono ?_
        rintro q1 v1 ⟨rfl, hv1⟩
        subst hv1
        go_wp2_with fail
        refine (in_yes x l1 h1 _ hin0 hin1).mono ?_
        rintro q2 v2 ⟨rfl, hv2⟩
        subst hv2
        go_wp2_with fail
        refine (HX.out _ _ s0).mono ?_
        rintro q3 v3 ⟨rfl, hv3⟩
        subst hv3
        clear HX
        go_wp2_with fail
        go_roundw
        case rel => exact ⟨trivial, k + 1, 128, 191, 64 * c1 + x - 128, by omega, by omega, rfl, rfl, by go_num, by go_num, by omega, by omega, by omega, by omega, HN⟩
        case measure => simp [intOf]; omega
      · have hR : R = ([-1], k) := by
          rw [← HI.out, HOut.out hin]
          simp
        go_wp2_with fail
        refine (HX.out _ _ s0).mono ?_
        rintro q1 v1 ⟨rfl, hv1⟩
        subst hv1
        go_wp2_with fail
        refine (in_no x l1 h1 _ hin).mono ?_
        rintro q2 v2 ⟨rfl, hv2⟩
        subst hv2
        go_wp2_with fail
        refine bodyPost_ret (by simp [results, Tryd.results72, go_sem]; rfl) rfl ?_
        try rw [hR]
        exact HP.out.ret_bad k 0
    · have hkn2 : k = 3 := by omega
      have hR : R = ([c1], 3) := by
        rw [← HI.out, hkn2]
        rfl
      subst hkn2
      go_wp2_with fail
      refine bodyPost_ret (by simp [results, Tryd.results72, go_sem]; rfl) rfl ?_
      try rw [hR]
      exact HP.out.ret_new c1 3 0

set_option maxRecDepth 100000 in
set_option maxHeartbeats 4000000 in
theorem utf_three_c (s : ByteArray) (m : Int) (b : UInt8) (r : List UInt8) (w : World) (hb : s.data.toList = b :: r) (h0 : 224 ≤ Pl.byte b) (h1 : Pl.byte b ≤ 239) (h2 : Pl.byte b ≠ 224) (h3 : Pl.byte b ≠ 237) :
    Calls Tryd.prog 72 #[.int .i64 1, .string s, .int .i64 m] w fun e w' => AnsP w (Pl.pUtf (b :: r)).1 (Pl.pUtf (b :: r)).2 0 e w' := by
  have hs0 : s.data.toList.length = s.size := by simp
  have hpos : 0 < s.size := by rw [← hs0, hb]; simp
  obtain ⟨y, hy⟩ : ∃ y : Nat, b.toNat = y := ⟨_, rfl⟩
  have hix : ∀ h : 0 < s.size, (s[0]'h).toNat = y := fun h => by
    rw [← hy]
    show (s.data.toList[0]'(by simpa using h)).toNat = _
    simp [hb]
  have hy2 : (y : Int) ≤ 255 := by have := b.toNat_lt; omega
  have hwb : IntKind.i64.wrap (y : Int) = (y : Int) := by rw [IntKind.wrap_i64]; omega
  have hyb : Pl.byte b = (y : Int) := by unfold Pl.byte; rw [hy]
  have hr : r = s.data.toList.drop 1 := by rw [hb]; rfl
  obtain ⟨R, hR⟩ : ∃ R, Pl.pUtf (b :: r) = R := ⟨_, rfl⟩
  rw [hyb] at h0 h1 h2 h3
  have HR0 : Hid (((Pl.pTail (3 - 1) ((y : Int) % 16) 128 191 (s.data.toList.drop 1)).1, (Pl.pTail (3 - 1) ((y : Int) % 16) 128 191 (s.data.toList.drop 1)).2 + 1) = R) := Lib.hid (by
    rw [← hR, ← hr]
    unfold Pl.pUtf
    dsimp only
    rw [hyb]
    rw [if_neg (by omega), if_neg (by omega), if_pos (by omega), if_neg h2, if_neg h3])
  rw [hR]
  clear hR hr hyb hy hb hs0
  have hn224 : ((y : Int) == 224) = false := beq_eq_false_iff_ne.2 (by omega)
  have hn237 : ((y : Int) == 237) = false := beq_eq_false_iff_ne.2 (by omega)
  have hn240 : ((y : Int) == 240) = false := beq_eq_false_iff_ne.2 (by omega)
  have hn244 : ((y : Int) == 244) = false := beq_eq_false_iff_ne.2 (by omega)
  go_enter Tryd.func72, Tryd.ntmps72
  go_wp2_with fail
  have P1 := pb_lay w s 1
  generalize World.alloc _ _ = W at P1 ⊢
  have e0 := P1.e0
  have s0 := P1.s0
  have g0 := P1.g0
  have HP := Lib.hid P1
  clear P1
  refine (in_no y 194 223 _ (by omega)).mono ?_
  rintro r2 w2 ⟨rfl, hw2⟩
  subst hw2
  go_wp2_with fail
  refine (in_yes y 224 239 _ (by omega) (by omega)).mono ?_
  rintro r2 w2 ⟨rfl, hw2⟩
  subst hw2
  go_wp2_with fail
  go_loopw [14, 15, 16, 17] (fun lo hi code i wr => W = wr ∧ ∃ (k : Nat) (l1 h1 c1 : Int), 1 ≤ k ∧ k ≤ 3 ∧ lo = .int .i64 l1 ∧ hi = .int .i64 h1 ∧ code = .int .i64 c1 ∧ i = .int .i64 k ∧ 128 ≤ l1 ∧ h1 ≤ 191 ∧ 0 ≤ c1 ∧ ((k = 1 ∧ c1 ≤ 31) ∨ (k = 2 ∧ c1 ≤ 2047) ∨ (k = 3 ∧ c1 ≤ 131071) ∨ (k = 4 ∧ c1 ≤ 8388607)) ∧ Hid (((Pl.pTail (3 - k) c1 l1 h1 (s.data.toList.drop k)).1, (Pl.pTail (3 - k) c1 l1 h1 (s.data.toList.drop k)).2 + k) = R)) (fun _ _ _ i _ => 4 - (intOf i).toNat)
  case atStart => exact ⟨rfl, 1, 128, 191, (y : Int) % 16, by omega, by omega, rfl, rfl, by go_num, rfl, by omega, by omega, by omega, .inl ⟨rfl, by omega⟩, HR0⟩
  case round =>
    obtain ⟨rfl, k, l1, h1, c1, hk1, hkn, rfl, rfl, rfl, rfl, hl1, hh1, hc0, hc1, HI⟩ := hrel
    by_cases hlt : k < 3
    · have hlt2 : (k : Int) < 3 := by omega
      have hxr := getB_range s.data.toList k
      have HX : Hid (∀ (S : Nat) (W : World), W.cell? ⟨S, 0, none⟩ = some (.string s) → Calls Tryd.prog 93 #[.int .i64 (k : Int), .pointer (some ⟨S, 0, none⟩)] W fun e w' => e = .returned (.int .i64 (getB s.data.toList k)) ∧ W = w') := Lib.hid fun S W h => get_any s S (k : Int) k W rfl h
      have HIn := Lib.hid (fun h => pTail_in (3 - k - 1) c1 l1 h1 s.data.toList k (by omega) h)
      have HOut := Lib.hid (fun h => pTail_out (3 - k - 1) c1 l1 h1 s.data.toList k h)
      rw [show 3 - k - 1 + 1 = 3 - k by omega] at HIn HOut
      obtain ⟨x, hx2⟩ : ∃ x, getB s.data.toList k = x := ⟨_, rfl⟩
      rw [hx2] at hxr HX HIn HOut
      obtain ⟨hx0, hx1⟩ := hxr
      clear hx2
      by_cases hin : l1 ≤ x ∧ x ≤ h1
      · obtain ⟨hin0, hin1⟩ := hin
        have HN : Hid (((Pl.pTail (3 - (k + 1)) (64 * c1 + x - 128) 128 191 (s.data.toList.drop (k + 1))).1, (Pl.pTail (3 - (k + 1)) (64 * c1 + x - 128) 128 191 (s.data.toList.drop (k + 1))).2 + (k + 1)) = R) := Lib.hid (by
          have h := HI.out
          rw [HIn.out ⟨hin0, hin1⟩, show 3 - k - 1 = 3 - (k + 1) by omega] at h
          rw [← h]
          simp only [Prod.mk.injEq, true_and]
          omega)
        clear HI HIn HOut
        go_wp2_with fail
        refine (HX.out _ _ s0).mono ?_
        rintro q1 v1 ⟨rfl, hv1⟩
        subst hv1
        go_wp2_with fail
        refine (in_yes x l1 h1 _ hin0 hin1).mono ?_
        rintro q2 v2 ⟨rfl, hv2⟩
        subst hv2
        go_wp2_with fail
        refine (HX.out _ _ s0).mono ?_
        rintro q3 v3 ⟨rfl, hv3⟩
        subst hv3
        clear HX
        go_wp2_with fail
        go_roundw
        case rel => exact ⟨trivial, k + 1, 128, 191, 64 * c1 + x - 128, by omega, by omega, rfl, rfl, by go_num, by go_num, by omega, by omega, by omega, by omega, HN⟩
        case measure => simp [intOf]; omega
      · have hR : R = ([-1], k) := by
          rw [← HI.out, HOut.out hin]
          simp
        go_wp2_with fail
        refine (HX.out _ _ s0).mono ?_
        rintro q1 v1 ⟨rfl, hv1⟩
        subst hv1
        go_wp2_with fail
        refine (in_no x l1 h1 _ hin).mono ?_
        rintro q2 v2 ⟨rfl, hv2⟩
        subst hv2
        go_wp2_with fail
        refine bodyPost_ret (by simp [results, Tryd.results72, go_sem]; rfl) rfl ?_
        try rw [hR]
        exact HP.out.ret_bad k 0
    · have hkn2 : k = 3 := by omega
      have hR : R = ([c1], 3) := by
        rw [← HI.out, hkn2]
        rfl
      subst hkn2
      go_wp2_with fail
      refine bodyPost_ret (by simp [results, Tryd.results72, go_sem]; rfl) rfl ?_
      try rw [hR]
      exact HP.out.ret_new c1 3 0
end Go.Proofs.YtefohnbmifblkaaDoor
