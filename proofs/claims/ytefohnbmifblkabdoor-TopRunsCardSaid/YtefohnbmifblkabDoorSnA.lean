/-
  The walks of sniff.small and sniff.at: each returns what the plain functions small and atK say.
-/
import Derived.Test.YtefohnbmifblkabDoorPlA
import Derived.Test.YtefohnbmifblkabDoorRows
import Derived.Test.YtefohnbmifblkabDoorMem
namespace Go.Proofs.YtefohnbmifblkabDoor
open Go.RowKit

set_option maxHeartbeats 400000 in
theorem small_any (c : UInt8) (w : World) : Calls Tryd.prog 51 #[.int .u8 c.toNat] w fun e w' => e = .returned (.int .u8 (Pl.small c).toNat) ∧ w = w' := by
  have hc : c.toNat < 256 := c.toNat_lt
  by_cases h : 65 ≤ c.toNat ∧ c.toNat ≤ 90
  · obtain ⟨h1, h2⟩ := h
    rw [Pl.small_up h1 h2]
    go_enter Tryd.func51, Tryd.ntmps51
    go_wp2
    go_ret
    exact ⟨ret_int (by omega), rfl⟩
  · rw [Pl.small_no h]
    by_cases h1 : 65 ≤ c.toNat
    · have h2 : ¬ c.toNat ≤ 90 := fun x => h ⟨h1, x⟩
      clear h
      go_enter Tryd.func51, Tryd.ntmps51
      go_wp2
      go_ret
      exact ⟨rfl, rfl⟩
    · clear h
      go_enter Tryd.func51, Tryd.ntmps51
      go_wp2
      go_ret
      exact ⟨rfl, rfl⟩

theorem ret_bools {a b c d : Bool} (h : (a, b) = (c, d)) : Ending.returned (.tuple #[.bool a, .bool b]) = .returned (.tuple #[.bool c, .bool d]) := by
  cases h; rfl

theorem atK_eq (l : List UInt8) (k : Nat) (hk : k < 8) : Pl.atK (Pl.key.drop k) l = match l with
    | [] => (false, true)
    | b :: bs => if Pl.small b = Pl.key[k]'(by simpa [Pl.key] using hk) then Pl.atK (Pl.key.drop (k + 1)) bs else (false, false) := by
  rw [List.drop_eq_getElem_cons (by simpa [Pl.key] using hk)]
  cases l with
  | nil => rfl
  | cons b bs => rfl

theorem drop_data (s : ByteArray) (i : Nat) (h : i < s.size) : s.data.toList.drop i = s[i] :: s.data.toList.drop (i + 1) := by
  rw [List.drop_eq_getElem_cons (by simpa using h)]
  rfl
theorem at_no (s : ByteArray) (i k : Nat) (h8 : k < 8) (hlt : i + k < s.size) (hk : k < (ByteArray.mk #[99, 104, 97, 114, 115, 101, 116, 61]).size)
    (h : (((Pl.small s[i + k]).toNat : Int) != ((ByteArray.mk #[99, 104, 97, 114, 115, 101, 116, 61])[k]).toNat) = true) : Pl.atK (Pl.key.drop k) (s.data.toList.drop (i + k)) = (false, false) := by
  rw [atK_eq _ _ h8, drop_data s _ hlt]
  refine if_neg fun e => ?_
  rw [e] at h
  exact absurd h (by simp [Pl.key]; rfl)
theorem at_yes (s : ByteArray) (i k : Nat) (h8 : k < 8) (hlt : i + k < s.size) (hk : k < (ByteArray.mk #[99, 104, 97, 114, 115, 101, 116, 61]).size)
    (h : (((Pl.small s[i + k]).toNat : Int) != ((ByteArray.mk #[99, 104, 97, 114, 115, 101, 116, 61])[k]).toNat) = false) : Pl.atK (Pl.key.drop (k + 1)) (s.data.toList.drop (i + (k + 1))) = Pl.atK (Pl.key.drop k) (s.data.toList.drop (i + k)) := by
  rw [atK_eq _ k h8, drop_data s _ hlt]
  refine (if_pos ?_).symm
  have h1 : ((Pl.small s[i + k]).toNat : Int) = ((ByteArray.mk #[99, 104, 97, 114, 115, 101, 116, 61])[k]).toNat := by simpa using h
  have h2 : (Pl.small s[i + k]).toNat = ((ByteArray.mk #[99, 104, 97, 114, 115, 101, 116, 61])[k]).toNat := by omega
  exact UInt8.toNat_inj.1 h2

set_option maxHeartbeats 1000000 in
theorem at_any (s : ByteArray) (i : Nat) (hs : s.size ≤ maxLen) (hi : i ≤ s.size) (hb : s.size < 4294967281) (w : World) :
    Calls Tryd.prog 44 #[.string s, .int .i64 i] w fun e w' =>
      e = .returned (.tuple #[.bool (Pl.atK Pl.key (s.data.toList.drop i)).1, .bool (Pl.atK Pl.key (s.data.toList.drop i)).2]) ∧ Drew w w' := by
  unfold maxLen at hs
  obtain ⟨A, hA⟩ : ∃ A, Pl.atK Pl.key (s.data.toList.drop i) = A := ⟨_, rfl⟩
  have HA := Lib.hid hA
  rw [hA]
  clear hA
  go_enter Tryd.func44, Tryd.ntmps44
  go_wp2
  go_loopw [7] (fun j wr => Drew w wr ∧ ∃ k : Nat, k ≤ 8 ∧ i + k ≤ s.size ∧ j = .int .i64 k ∧ Hid (Pl.atK (Pl.key.drop k) (s.data.toList.drop (i + k)) = A)) (fun j _ => 8 - (intOf j).toNat)
  case atStart => exact ⟨Drew.refl w, 0, by omega, by omega, rfl, HA⟩
  case round =>
    obtain ⟨hw, k, hk, hik, rfl, HK⟩ := hrel
    clear HA
    by_cases h8 : k < 8
    · by_cases hlt : i + k < s.size
      · have e1 : IntKind.i64.wrap ((i : Int) + (k : Int)) = (i : Int) + (k : Int) := IntWalk.i64_in _ (by omega)
        have e2 : (0 : Int) ≤ (i : Int) + (k : Int) := by omega
        have e3 : ((i : Int) + (k : Int)).toNat = i + k := by omega
        have e4 : (i : Int) + (k : Int) < (s.size : Int) := by omega
        have e5 : (k : Int) < 8 := by omega
        go_wp2
        go_quiet ((go_at_call 51; exact quiet_left (small_any _ _)))
        go_wp2
        · go_ret2
          exact ⟨by rw [← HK.out, at_no s i k h8 hlt _ ‹_›]; rfl, hw.drewN _⟩
        · go_roundw
          case rel => exact ⟨hw.drewN _, k + 1, by omega, by omega, by go_num, (at_yes s i k h8 hlt _ ‹_›).trans HK.out⟩
          case measure => simp [intOf]; omega
      · go_wp2
        go_ret2
        rw [HK.out.symm, atK_eq _ _ h8, List.drop_of_length_le (l := s.data.toList) (by simp; omega)]
        exact ⟨rfl, hw⟩
    · go_wp2
      go_ret2
      obtain rfl : k = 8 := by omega
      rw [HK.out.symm]
      exact ⟨rfl, hw⟩
end Go.Proofs.YtefohnbmifblkabDoor
