/-
  The walk of sniff.Label: it returns what the plain function label says, for every text of at most 2^63 - 1 bytes; nothing that was there is changed.
-/
import Derived.Test.YtefohnbmifblkaaDoorSnE
import Derived.Test.YtefohnbmifblkaaDoorSnA
namespace Go.Proofs.YtefohnbmifblkaaDoor
open Go.RowKit

theorem atK_long : ∀ (k l : List UInt8), (Pl.atK k l).1 = true → k.length ≤ l.length
  | [], _, _ => Nat.zero_le _
  | _ :: _, [], h => by cases h
  | a :: k, b :: l, h => by
    unfold Pl.atK at h
    split at h
    · have := atK_long k l h
      simpa using this
    · cases h

theorem labelIn_more {B : Bool} {L : List UInt8} {is : Bool} (hne : L ≠ []) (h : Pl.atK Pl.key L = (is, true)) : Pl.labelIn B L = (0, B) := by
  cases L with
  | nil => exact absurd rfl hne
  | cons b r =>
    unfold Pl.labelIn
    rw [h, if_pos rfl]
theorem labelIn_not {B : Bool} {b : UInt8} {r : List UInt8} (h : Pl.atK Pl.key (b :: r) = (false, false)) : Pl.labelIn B (b :: r) = Pl.labelIn B r := by
  rw [Pl.labelIn, h, if_neg (by simp), if_pos rfl]
theorem labelIn_open {B : Bool} {b : UInt8} {r v : List UInt8} (h : Pl.atK Pl.key (b :: r) = (true, false)) (hv : Pl.value ((b :: r).drop 8) = (v, false)) : Pl.labelIn B (b :: r) = (0, B) := by
  rw [Pl.labelIn, h, if_neg (by simp), if_neg (by simp), hv, if_pos rfl]
theorem labelIn_none {B : Bool} {b : UInt8} {r v : List UInt8} (h : Pl.atK Pl.key (b :: r) = (true, false)) (hv : Pl.value ((b :: r).drop 8) = (v, true)) (hf : Pl.find v = 0) : Pl.labelIn B (b :: r) = Pl.labelIn B r := by
  rw [Pl.labelIn, h, if_neg (by simp), if_neg (by simp), hv, if_neg (by simp), if_pos hf]
theorem labelIn_two {B : Bool} {b : UInt8} {r v : List UInt8} (h : Pl.atK Pl.key (b :: r) = (true, false)) (hv : Pl.value ((b :: r).drop 8) = (v, true)) (hf : Pl.find v = 5 ∨ Pl.find v = 6) : Pl.labelIn B (b :: r) = (1, true) := by
  rw [Pl.labelIn, h, if_neg (by simp), if_neg (by simp), hv, if_neg (by simp), if_neg (by rcases hf with e | e <;> rw [e] <;> decide), if_pos hf]
theorem labelIn_some {B : Bool} {b : UInt8} {r v : List UInt8} {e : Int} (h : Pl.atK Pl.key (b :: r) = (true, false)) (hv : Pl.value ((b :: r).drop 8) = (v, true)) (hf : Pl.find v = e) (h0 : e ≠ 0) (h5 : e ≠ 5) (h6 : e ≠ 6) : Pl.labelIn B (b :: r) = (e, true) := by
  rw [Pl.labelIn, h, if_neg (by simp), if_neg (by simp), hv, if_neg (by simp), hf, if_neg h0, if_neg (by omega)]
theorem ret_lab {a b : Int} {x y : Bool} (h : (a, x) = (b, y)) : Ending.returned (.tuple #[.int .i64 a, .bool x]) = .returned (.tuple #[.int .i64 b, .bool y]) := by
  cases h; rfl
theorem value_len (s : List UInt8) : (Pl.value s).1.length ≤ s.length := by
  have h2 : ∀ e t : List UInt8, (Pl.value2 e t).1.length ≤ t.length := by
    intro e t
    unfold Pl.value2
    split
    · simp
    · simp; omega
  cases s with
  | nil => exact h2 _ _
  | cons b r =>
    show (if _ then Pl.value2 [b] r else Pl.value2 Pl.ends (b :: r)).1.length ≤ _
    split
    · have := h2 [b] r; simp; omega
    · exact h2 _ _

set_option maxHeartbeats 4000000 in
theorem labelFn_any (s : ByteArray) (w : World) (hs : s.size ≤ maxLen) :
    Calls Tryd.prog 16 #[.string s] w fun e w' => e = .returned (.tuple #[.int .i64 (Pl.label s.data.toList).1, .bool (Pl.label s.data.toList).2]) ∧ Below w.heap.size w w' := by
  unfold maxLen at hs
  obtain ⟨A, hA⟩ : ∃ A, Pl.label s.data.toList = A := ⟨_, rfl⟩
  have HA := Lib.hid hA
  rw [hA]
  clear hA
  go_enter Tryd.func16, Tryd.ntmps16
  go_wp2
  have hn : (min (s.size : Int) 256).toNat = min s.size 256 := by omega
  rw [hn]
  have hT1 : (s.extract 0 (min s.size 256)).data.toList = s.data.toList.take 256 := by
    rw [Lib.extract_data, List.drop_zero, Nat.sub_zero, Nat.min_comm, ← List.take_take]
    rw [List.take_of_length_le (l := s.data.toList) (by simp)]
  have hT2 : min (min s.size 256) s.size = (s.extract 0 (min s.size 256)).size := by
    have h1 := congrArg List.length hT1
    rw [List.length_take, ← Lib.size_eq, ← Lib.size_eq] at h1
    omega
  have hT3 : (s.extract 0 (min s.size 256)).size ≤ 256 := by rw [← hT2]; omega
  rw [hT2]
  have HB : Pl.label s.data.toList = Pl.labelIn (decide (256 ≤ (s.size : Int))) (s.extract 0 (min s.size 256)).data.toList := by
    rw [hT1]
    unfold Pl.label
    rw [← Lib.size_eq]
    congr 1
    rw [decide_eq_decide]
    omega
  rw [HA.out] at HB
  generalize decide (256 ≤ (s.size : Int)) = B at HB ⊢
  clear hn hT1 hT2
  generalize s.extract 0 (min s.size 256) = T at hT3 HB ⊢
  have HL := Lib.hid HB.symm
  clear HB HA
  go_loopw [21] (fun i wr => Below w.heap.size w wr ∧ ∃ k : Nat, k ≤ T.size ∧ i = .int .i64 k ∧ Hid (Pl.labelIn B (T.data.toList.drop k) = A)) (fun i _ => T.size - (intOf i).toNat)
  case atStart => exact ⟨Below.refl _ _, 0, by omega, rfl, HL⟩
  case round =>
    obtain ⟨hbw, k, hk, rfl, HK⟩ := hrel
    clear HL
    by_cases hlt : k < T.size
    · have hd := drop_data T k hlt
      rw [hd] at HK
      obtain ⟨b, hb⟩ : ∃ b, T[k] = b := ⟨_, rfl⟩
      rw [hb] at hd HK
      clear hb
      have HD := Lib.hid hd
      clear hd
      obtain ⟨r, hr⟩ : ∃ r, T.data.toList.drop (k + 1) = r := ⟨_, rfl⟩
      rw [hr] at HK HD
      have HR := Lib.hid hr
      clear hr
      rcases hat : Pl.atK Pl.key (b :: r) with ⟨is, more⟩
      have HAT := Lib.hid hat
      clear hat
      cases more with
      | true =>
        go_wp2_with (go_at_call 42; refine (at_any _ _ (by unfold maxLen; omega) (by omega) (by omega) _).mono ?_; rintro e w1 ⟨rfl, hd1⟩; rw [HD.out, HAT.out])
        go_ret2
        exact ⟨ret_lab (by rw [← HK.out, labelIn_more (by simp) HAT.out]), hbw.trans hd1.below⟩
      | false =>
        cases is with
        | false =>
          go_wp2_with (go_at_call 42; refine (at_any _ _ (by unfold maxLen; omega) (by omega) (by omega) _).mono ?_; rintro e w1 ⟨rfl, hd1⟩; rw [HD.out, HAT.out])
          go_roundw
          case rel => exact ⟨hbw.trans hd1.below, k + 1, by omega, by go_num, by rw [HR.out, ← labelIn_not HAT.out]; exact HK⟩
          case measure => simp [intOf]; omega
        | true =>
          have h8 : k + 8 ≤ T.size := by
            have h1 := atK_long Pl.key (b :: r) (by rw [HAT.out])
            have h2 := congrArg List.length HD.out
            simp [Pl.key] at h1 h2
            omega
          have HV := Lib.hid (show (T.extract (k + 8) T.size).data.toList = (b :: r).drop 8 by rw [Lib.extract_to_end, ← HD.out, List.drop_drop])
          have hv8 : (T.extract (k + 8) T.size).size ≤ 256 := by
            rw [Lib.size_eq, HV.out, ← HD.out]; simp; omega
          rcases hval : Pl.value ((b :: r).drop 8) with ⟨v, done⟩
          have hvl : v.length ≤ 256 := by
            have h1 := value_len ((b :: r).drop 8)
            rw [hval, ← HV.out, ← Lib.size_eq] at h1
            simp at h1
            omega
          have HVAL := Lib.hid hval
          clear hval
          cases done with
          | false =>
            go_wp2_with (first
              | (go_at_call 42; refine (at_any _ _ (by unfold maxLen; omega) (by omega) (by omega) _).mono ?_; rintro e w1 ⟨rfl, hd1⟩; rw [HD.out, HAT.out])
              | (go_at_call 43; refine (value_any _ _ (by omega)).mono ?_; rintro e w2 ⟨rfl, hb2⟩; rw [HV.out, HVAL.out]))
            go_ret2
            exact ⟨ret_lab (by rw [← HK.out, labelIn_open HAT.out HVAL.out]), ((hbw.trans hd1.below).trans (hb2.mono (hbw.trans hd1.below).size))⟩
          | true =>
            obtain ⟨f, hf⟩ : ∃ f, Pl.find v = f := ⟨_, rfl⟩
            have HF := Lib.hid hf
            clear hf
            by_cases f0 : f = 0
            · subst f0
              go_wp2_with (first
                | (go_at_call 42; refine (at_any _ _ (by unfold maxLen; omega) (by omega) (by omega) _).mono ?_; rintro e w1 ⟨rfl, hd1⟩; rw [HD.out, HAT.out])
                | (go_at_call 43; refine (value_any _ _ (by omega)).mono ?_; rintro e w2 ⟨rfl, hb2⟩; rw [HV.out, HVAL.out])
                | (go_at_call 44; refine (find_any _ _ (by unfold maxLen; show v.toArray.size ≤ _; simp; omega)).mono ?_; rintro e w3 ⟨rfl, hb3⟩; rw [show (⟨v.toArray⟩ : ByteArray).data.toList = v from rfl, HF.out]))
              go_roundw
              case rel => exact ⟨(((hbw.trans hd1.below).trans (hb2.mono (hbw.trans hd1.below).size)).trans (hb3.mono ((hbw.trans hd1.below).trans (hb2.mono (hbw.trans hd1.below).size)).size)), k + 1, by omega, by go_num, by rw [HR.out, ← labelIn_none HAT.out HVAL.out HF.out]; exact HK⟩
              case measure => simp [intOf]; omega
            · by_cases f5 : f = 5
              · subst f5
                go_wp2_with (first
                  | (go_at_call 42; refine (at_any _ _ (by unfold maxLen; omega) (by omega) (by omega) _).mono ?_; rintro e w1 ⟨rfl, hd1⟩; rw [HD.out, HAT.out])
                  | (go_at_call 43; refine (value_any _ _ (by omega)).mono ?_; rintro e w2 ⟨rfl, hb2⟩; rw [HV.out, HVAL.out])
                  | (go_at_call 44; refine (find_any _ _ (by unfold maxLen; show v.toArray.size ≤ _; simp; omega)).mono ?_; rintro e w3 ⟨rfl, hb3⟩; rw [show (⟨v.toArray⟩ : ByteArray).data.toList = v from rfl, HF.out]))
                go_ret2
                exact ⟨ret_lab (by rw [← HK.out, labelIn_two HAT.out HVAL.out (.inl HF.out)]), (((hbw.trans hd1.below).trans (hb2.mono (hbw.trans hd1.below).size)).trans (hb3.mono ((hbw.trans hd1.below).trans (hb2.mono (hbw.trans hd1.below).size)).size))⟩
              · by_cases f6 : f = 6
                · subst f6
                  go_wp2_with (first
                    | (go_at_call 42; refine (at_any _ _ (by unfold maxLen; omega) (by omega) (by omega) _).mono ?_; rintro e w1 ⟨rfl, hd1⟩; rw [HD.out, HAT.out])
                    | (go_at_call 43; refine (value_any _ _ (by omega)).mono ?_; rintro e w2 ⟨rfl, hb2⟩; rw [HV.out, HVAL.out])
                    | (go_at_call 44; refine (find_any _ _ (by unfold maxLen; show v.toArray.size ≤ _; simp; omega)).mono ?_; rintro e w3 ⟨rfl, hb3⟩; rw [show (⟨v.toArray⟩ : ByteArray).data.toList = v from rfl, HF.out]))
                  go_ret2
                  exact ⟨ret_lab (by rw [← HK.out, labelIn_two HAT.out HVAL.out (.inr HF.out)]), (((hbw.trans hd1.below).trans (hb2.mono (hbw.trans hd1.below).size)).trans (hb3.mono ((hbw.trans hd1.below).trans (hb2.mono (hbw.trans hd1.below).size)).size))⟩
                · have HZ := Lib.hid (labelIn_some (B := B) HAT.out HVAL.out HF.out f0 f5 f6)
                  have b0 : (f == 0) = false := beq_eq_false_iff_ne.2 f0
                  have b5 : (f == 5) = false := beq_eq_false_iff_ne.2 f5
                  have b6 : (f == 6) = false := beq_eq_false_iff_ne.2 f6
                  clear f0 f5 f6
                  go_wp2_with (first
                    | (go_at_call 42; refine (at_any _ _ (by unfold maxLen; omega) (by omega) (by omega) _).mono ?_; rintro e w1 ⟨rfl, hd1⟩; rw [HD.out, HAT.out])
                    | (go_at_call 43; refine (value_any _ _ (by omega)).mono ?_; rintro e w2 ⟨rfl, hb2⟩; rw [HV.out, HVAL.out])
                    | (go_at_call 44; refine (find_any _ _ (by unfold maxLen; show v.toArray.size ≤ _; simp; omega)).mono ?_; rintro e w3 ⟨rfl, hb3⟩; rw [show (⟨v.toArray⟩ : ByteArray).data.toList = v from rfl, HF.out]))
                  go_ret2
                  exact ⟨ret_lab (by rw [← HK.out, HZ.out]), (((hbw.trans hd1.below).trans (hb2.mono (hbw.trans hd1.below).size)).trans (hb3.mono ((hbw.trans hd1.below).trans (hb2.mono (hbw.trans hd1.below).size)).size))⟩
    · have hke : k = T.size := by omega
      subst hke
      have HZ := Lib.hid (show Pl.labelIn B (T.data.toList.drop T.size) = (0, B) by rw [List.drop_of_length_le (by simp)]; rfl)
      go_wp2
      go_ret2
      exact ⟨ret_lab (by rw [← HK.out, HZ.out]), hbw⟩
end Go.Proofs.YtefohnbmifblkaaDoor
