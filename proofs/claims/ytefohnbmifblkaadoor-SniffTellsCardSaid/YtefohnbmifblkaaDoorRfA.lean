/-
  The walks of the references' MarkOf, MayBeMarked and Trimmed: they return what the plain functions mark, mayMark and trim say.
-/
import Derived.Test.YtefohnbmifblkaaDoorPlB
import Derived.Test.YtefohnbmifblkaaDoorMem
import Derived.Test.YtefohnbmifblkaaDoorRows
import Derived.Test.YtefohnbmifblkaaDoorShelf
import Derived.Test.YtefohnbmifblkaaDoorSnB
import Derived.Test.YtefohnbmifblkaaDoorSnE
import Derived.Laws.MakeOwn
import Derived.Deep.OwnRows
namespace Go.Proofs.YtefohnbmifblkaaDoor
open Go.RowKit

set_option maxHeartbeats 1000000 in
theorem markOf_any (s : ByteArray) (w : World) :
    Calls Tryd.prog 19 #[.string s] w fun e w' => e = .returned (.tuple #[.int .i64 (Pl.mark s.data.toList).1, .int .i64 (Pl.mark s.data.toList).2]) ∧ w = w' := by
  obtain ⟨P1, h1⟩ : ∃ P, Lib.hasPrefix s.data.toList [239, 187, 191] = P := ⟨_, rfl⟩
  obtain ⟨P2, h2⟩ : ∃ P, Lib.hasPrefix s.data.toList [255, 254] = P := ⟨_, rfl⟩
  obtain ⟨P3, h3⟩ : ∃ P, Lib.hasPrefix s.data.toList [254, 255] = P := ⟨_, rfl⟩
  have hm : Pl.mark s.data.toList = if P1 = true then (1, 3) else if P2 = true then (5, 2) else if P3 = true then (6, 2) else (0, 0) := by
    unfold Pl.mark
    rw [← h1, ← h2, ← h3]
    rfl
  rw [hm]
  clear hm
  have H1 := Lib.hid h1
  have H2 := Lib.hid h2
  have H3 := Lib.hid h3
  clear h1 h2 h3
  cases P1 <;> cases P2 <;> cases P3
  all_goals
    go_enter Tryd.func19, Tryd.ntmps19
    go_wp2_with (first
      | (go_at_call_of 45 (⟨#[239, 187, 191]⟩ : ByteArray); refine (Tryd.strings_HasPrefix _ _ _).mono ?_; rintro e w1 ⟨rfl, hw⟩; subst hw; rw [show (⟨#[239, 187, 191]⟩ : ByteArray).data.toList = [239, 187, 191] from rfl, H1.out])
      | (go_at_call_of 45 (⟨#[255, 254]⟩ : ByteArray); refine (Tryd.strings_HasPrefix _ _ _).mono ?_; rintro e w1 ⟨rfl, hw⟩; subst hw; rw [show (⟨#[255, 254]⟩ : ByteArray).data.toList = [255, 254] from rfl, H2.out])
      | (go_at_call_of 45 (⟨#[254, 255]⟩ : ByteArray); refine (Tryd.strings_HasPrefix _ _ _).mono ?_; rintro e w1 ⟨rfl, hw⟩; subst hw; rw [show (⟨#[254, 255]⟩ : ByteArray).data.toList = [254, 255] from rfl, H3.out]))
    go_ret2
    exact ⟨rfl, rfl⟩

theorem mayMark_cases (s : List UInt8) : ((s = [] ∨ s = [239] ∨ s = [239, 187] ∨ s = [255] ∨ s = [254]) ∧ Pl.mayMark s = true) ∨ ((s ≠ [] ∧ s ≠ [239] ∧ s ≠ [239, 187] ∧ s ≠ [255] ∧ s ≠ [254]) ∧ Pl.mayMark s = false) := by
  match s with
  | [] => exact .inl ⟨.inl rfl, rfl⟩
  | [a] =>
    by_cases h1 : a = 239
    · subst h1; exact .inl ⟨by simp, by decide⟩
    · by_cases h2 : a = 255
      · subst h2; exact .inl ⟨by simp, by decide⟩
      · by_cases h3 : a = 254
        · subst h3; exact .inl ⟨by simp, by decide⟩
        · exact .inr ⟨by simp [h1, h2, h3], Pl.mayMark_head h1 h2 h3⟩
  | [a, b] =>
    by_cases h1 : a = 239 ∧ b = 187
    · obtain ⟨rfl, rfl⟩ := h1
      exact .inl ⟨by simp, by decide⟩
    · refine .inr ⟨by simp; exact fun x y => h1 ⟨x, y⟩, ?_⟩
      simp [Pl.mayMark, Pl.may1]
      intro x y
      exact h1 ⟨x.symm, y.symm⟩
  | a :: b :: c :: r => exact .inr ⟨by simp, Pl.mayMark_long (by simp)⟩

set_option maxHeartbeats 1000000 in
theorem mayBe_any (s : ByteArray) (w : World) :
    Calls Tryd.prog 21 #[.string s] w fun e w' => e = .returned (.bool (Pl.mayMark s.data.toList)) ∧ w = w' := by
  rcases mayMark_cases s.data.toList with ⟨h, hm⟩ | ⟨⟨h0, h1, h2, h3, h4⟩, hm⟩
  · rw [hm]
    have hs : s = ⟨#[]⟩ ∨ s = ⟨#[239]⟩ ∨ s = ⟨#[239, 187]⟩ ∨ s = ⟨#[255]⟩ ∨ s = ⟨#[254]⟩ := by
      obtain ⟨⟨l⟩⟩ := s
      simp only at h
      rcases h with rfl | rfl | rfl | rfl | rfl <;> simp
    clear h hm
    rcases hs with rfl | rfl | rfl | rfl | rfl
    all_goals
      go_enter Tryd.func21, Tryd.ntmps21
      go_wp2
      go_ret
      exact ⟨rfl, rfl⟩
  · rw [hm]
    have a0 : s.toList.isEmpty = false := by
      rw [Lib.toList_data]
      cases hl : s.data.toList with
      | nil => exact absurd hl h0
      | cons _ _ => rfl
    have a1 : (s.toList == [239]) = false := by rw [Lib.toList_data]; exact beq_eq_false_iff_ne.2 h1
    have a2 : (s.toList == [239, 187]) = false := by rw [Lib.toList_data]; exact beq_eq_false_iff_ne.2 h2
    have a3 : (s.toList == [255]) = false := by rw [Lib.toList_data]; exact beq_eq_false_iff_ne.2 h3
    have a4 : (s.toList == [254]) = false := by rw [Lib.toList_data]; exact beq_eq_false_iff_ne.2 h4
    clear h0 h1 h2 h3 h4 hm
    go_enter Tryd.func21, Tryd.ntmps21
    go_wp2
    go_ret
    exact ⟨rfl, rfl⟩

theorem spaces_mem (c : UInt8) : Pl.spaces.contains c = true ↔ (c.toNat = 32 ∨ (9 ≤ c.toNat ∧ c.toNat ≤ 13 ∧ c.toNat ≠ 11)) := by
  have : ∀ n : Fin 256, Pl.spaces.contains (UInt8.ofNat n.val) = true ↔ (n.val = 32 ∨ (9 ≤ n.val ∧ n.val ≤ 13 ∧ n.val ≠ 11)) := by decide +kernel
  have h := this ⟨c.toNat, c.toNat_lt⟩
  simpa using h

set_option maxHeartbeats 1000000 in
theorem space_any (c : UInt8) (w : World) :
    Calls Tryd.prog 67 #[.int .u8 c.toNat] w fun e w' => e = .returned (.bool (Pl.spaces.contains c)) ∧ w = w' := by
  have hm := spaces_mem c
  have hc : c.toNat < 256 := c.toNat_lt
  by_cases h32 : c.toNat = 32
  · rw [hm.2 (.inl h32)]
    clear hm
    have a : ((c.toNat : Int) == 32) = true := beq_iff_eq.2 (by omega)
    clear h32
    go_enter Tryd.func67, Tryd.ntmps67
    go_wp2
    go_ret
    exact ⟨rfl, rfl⟩
  · have a : ((c.toNat : Int) == 32) = false := beq_eq_false_iff_ne.2 (by omega)
    by_cases h9 : 9 ≤ c.toNat
    · by_cases h13 : c.toNat ≤ 13
      · by_cases h11 : c.toNat = 11
        · have e : Pl.spaces.contains c = false := by rw [Bool.eq_false_iff]; intro h; rcases hm.1 h with h | ⟨_, _, h⟩ <;> omega
          rw [e]
          have b : ((c.toNat : Int) != 11) = false := by simp; omega
          clear hm h32 h11 e
          go_enter Tryd.func67, Tryd.ntmps67
          go_wp2
          go_ret
          exact ⟨rfl, rfl⟩
        · rw [hm.2 (.inr ⟨h9, h13, h11⟩)]
          have b : ((c.toNat : Int) != 11) = true := by rw [bne_iff_ne]; omega
          clear hm h32 h11
          go_enter Tryd.func67, Tryd.ntmps67
          go_wp2
          go_ret
          exact ⟨rfl, rfl⟩
      · have e : Pl.spaces.contains c = false := by rw [Bool.eq_false_iff]; intro h; rcases hm.1 h with h | ⟨_, h, _⟩ <;> omega
        rw [e]
        clear hm h32 e
        go_enter Tryd.func67, Tryd.ntmps67
        go_wp2
        go_ret
        exact ⟨rfl, rfl⟩
    · have e : Pl.spaces.contains c = false := by rw [Bool.eq_false_iff]; intro h; rcases hm.1 h with h | ⟨h, _, _⟩ <;> omega
      rw [e]
      clear hm h32 e
      go_enter Tryd.func67, Tryd.ntmps67
      go_wp2
      go_ret
      exact ⟨rfl, rfl⟩
end Go.Proofs.YtefohnbmifblkaaDoor
