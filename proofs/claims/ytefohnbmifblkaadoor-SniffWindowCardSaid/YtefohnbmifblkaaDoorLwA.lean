/-
  The walks of the laws SniffWindow and SniffStays: each returns true for all texts of at most 2^47 bytes, in every world that holds the two tables of marks; nothing that was there is changed.
-/
import Derived.Test.YtefohnbmifblkaaDoorSnF
import Derived.Test.YtefohnbmifblkaaDoorSnG
import Derived.Test.YtefohnbmifblkaaDoorPlB
namespace Go.Proofs.YtefohnbmifblkaaDoor
open Go.RowKit

set_option maxHeartbeats 1000000 in
theorem sniffs_any (w : World) (hg : Gl w) :
    Calls Tryd.prog 15 #[] w fun e w' => e = .returned (.bool true) ∧ Below w.heap.size w w' := by
  have HG := Lib.hid hg
  clear hg
  have e2 := Lib.hid (show Pl.label (ByteArray.mk #[60, 109, 101, 116, 97, 32, 99, 104, 97, 114, 115, 101, 116, 61, 34, 116, 119, 105, 110, 34, 62]).data.toList = (3, true) by decide +kernel)
  go_enter Tryd.func15, Tryd.ntmps15
  go_wp2_with (first
    | (go_at_call 17; refine (mark_any _ _ HG.out).mono ?_; rintro e w1 ⟨rfl, hd1⟩; rw [show Pl.mark (ByteArray.mk #[255, 254, 97]).data.toList = (5, 2) from rfl])
    | (go_at_call 16; refine (labelFn_any _ _ (by decide)).mono ?_; rintro e w2 ⟨rfl, hb2⟩; rw [e2.out]))
  go_ret
  exact ⟨rfl, bthen hd1.below hb2⟩

theorem app_data (a b : ByteArray) : (a ++ b).data.toList = a.data.toList ++ b.data.toList := by simp
theorem app_size (a b : ByteArray) : (a ++ b).size = a.size + b.size := by simp
theorem front_data (s : ByteArray) (n : Nat) : (s.extract 0 n).data.toList = s.data.toList.take n := by
  rw [Lib.extract_data, List.drop_zero, Nat.sub_zero]

set_option maxRecDepth 100000 in
set_option maxHeartbeats 1000000 in
theorem sniffWindow_walk (s t : ByteArray) (w : World) (hs : s.size ≤ maxLen) (hst : s.size + t.size ≤ maxLen) (hg : Gl w) :
    Calls Tryd.prog 3 #[.string s, .string t] w fun e w' => e = .returned (.bool true) ∧ Below w.heap.size w w' := by
  have hadd : ∀ W : World, (Op.stringOp .add (s.extract 0 256) t).run Tryd.prog W = .ok (.string (s.extract 0 256 ++ t)) W := fun W => run_string_add_sum W _ _ (by rw [Lib.size_eq, Lib.extract_data]; unfold maxLen at hst; simp; omega)
  have HST := Lib.hid hst
  clear hst
  unfold maxLen at hs
  have HG := Lib.hid hg
  clear hg
  by_cases h256 : s.size < 256
  · go_enter Tryd.func3, Tryd.ntmps3
    go_wp2_with (go_at_call 15; refine (sniffs_any _ HG.out).mono ?_; rintro e w1 ⟨rfl, hb1⟩)
    go_ret
    exact ⟨rfl, hb1⟩
  · obtain ⟨h1, h2⟩ := Pl.label_window s.data.toList t.data.toList (by rw [← Lib.size_eq]; omega)
    rw [← front_data] at h1 h2
    rw [← app_data] at h1
    obtain ⟨x, hl⟩ : ∃ x, Pl.label (s.extract 0 256).data.toList = (x, true) := ⟨_, Prod.ext rfl h2⟩
    rw [hl] at h1
    have HL := Lib.hid hl
    have HM := Lib.hid h1
    clear hl h1 h2
    have hz1 : (s.extract 0 256).size ≤ maxLen := by rw [Lib.size_eq, front_data]; unfold maxLen; simp; omega
    have hz2 : (s.extract 0 256 ++ t).size ≤ maxLen := by rw [app_size, Lib.size_eq, front_data]; have := HST.out; simp; omega
    have HZ1 := Lib.hid hz1
    have HZ2 := Lib.hid hz2
    clear hz1 hz2
    go_enter Tryd.func3, Tryd.ntmps3
    go_wp2_with fail
    refine (labelFn_any _ _ HZ1.out).mono ?_
    rintro e w1 ⟨rfl, hb1⟩
    rw [HL.out]
    go_wp2_with fail
    refine (labelFn_any _ _ HZ2.out).mono ?_
    rintro e w2 ⟨rfl, hb2⟩
    rw [HM.out]
    have HB := bthen hb1 hb2
    go_wp2_with (go_at_call 15; refine (sniffs_any _ (HG.out.below HB)).mono ?_; rintro e w3 ⟨rfl, hb3⟩)
    go_ret
    exact ⟨rfl, bthen HB hb3⟩

set_option maxRecDepth 100000 in
set_option maxHeartbeats 2000000 in
theorem sniffStays_walk (s t : ByteArray) (w : World) (hs : s.size ≤ maxLen) (hst : s.size + t.size ≤ maxLen) (hg : Gl w) :
    Calls Tryd.prog 4 #[.string s, .string t] w fun e w' => e = .returned (.bool true) ∧ Below w.heap.size w w' := by
  have hadd : ∀ W : World, (Op.stringOp .add s t).run Tryd.prog W = .ok (.string (s ++ t)) W := fun W => run_string_add_sum W _ _ (by unfold maxLen at hst; omega)
  have hz2 : (s ++ t).size ≤ maxLen := by rw [app_size]; exact hst
  have HZ1 := Lib.hid hs
  have HZ2 := Lib.hid hz2
  clear hst hs hz2
  have HG := Lib.hid hg
  clear hg
  rcases hm : Pl.mark s.data.toList with ⟨a, n⟩
  rcases hm2 : Pl.mark (s ++ t).data.toList with ⟨b, m⟩
  obtain ⟨p, hp⟩ : ∃ p, Pl.mayMark s.data.toList = p := ⟨_, rfl⟩
  obtain ⟨q, hq⟩ : ∃ q, Pl.mayMark (s ++ t).data.toList = q := ⟨_, rfl⟩
  rcases hl : Pl.label s.data.toList with ⟨x, u⟩
  rcases hl2 : Pl.label (s ++ t).data.toList with ⟨y, v⟩
  have k1 := Pl.mark_stays s.data.toList t.data.toList
  rw [← app_data, hm, hm2, hp, hq] at k1
  have k2 := Pl.label_stays s.data.toList t.data.toList
  rw [← app_data, hl, hl2] at k2
  have k3 := Pl.label_sure s.data.toList
  rw [hl] at k3
  have HM := Lib.hid hm
  have HM2 := Lib.hid hm2
  have HP := Lib.hid hp
  have HQ := Lib.hid hq
  have HL := Lib.hid hl
  have HL2 := Lib.hid hl2
  clear hm hm2 hp hq hl hl2
  have parts : ∀ (P : Prop), (x = y → v = true → u = true → P) → (x = 0 → u = false → P) → P := by
    intro P h1 h2
    cases u with
    | true =>
      have e := k2 rfl
      exact h1 (congrArg Prod.fst e).symm (congrArg Prod.snd e) rfl
    | false => exact h2 (k3.elim id fun e => by cases e) rfl
  clear k2 k3
  by_cases ha : a = 0
  · cases p with
    | false =>
      obtain ⟨e1, rfl⟩ := k1 (.inr rfl)
      clear k1
      injection e1 with e1 e2
      subst ha e1 e2
      refine parts _ (fun h1 h2 h3 => ?_) (fun h1 h2 => ?_)
      · subst h1 h2 h3
        clear parts
        go_enter Tryd.func4, Tryd.ntmps4
        go_wp2_with fail
        refine (mark_any _ _ HG.out).mono ?_
        rintro e w1 ⟨rfl, hd1⟩
        rw [HM.out]
        go_wp2_with fail
        refine (mark_any _ _ (HG.out.drew hd1)).mono ?_
        rintro e w2 ⟨rfl, hd2⟩
        rw [HM2.out]
        have HD := hd1.trans hd2
        go_wp2_with fail
        refine (mayMark_any _ _ (HG.out.drew HD) HZ1.out).mono ?_
        rintro e w3 ⟨rfl, hd3⟩
        rw [HP.out]
        replace HD := HD.trans hd3
        go_wp2_with fail
        refine (mayMark_any _ _ (HG.out.drew HD) HZ2.out).mono ?_
        rintro e w3 ⟨rfl, hd3⟩
        rw [HQ.out]
        replace HD := HD.trans hd3
        have HB := HD.below (B := w.heap.size)
        go_wp2_with fail
        refine (labelFn_any _ _ HZ1.out).mono ?_
        rintro e w4 ⟨rfl, hb4⟩
        rw [HL.out]
        replace HB := bthen HB hb4
        go_wp2_with fail
        refine (labelFn_any _ _ HZ2.out).mono ?_
        rintro e w5 ⟨rfl, hb5⟩
        rw [HL2.out]
        replace HB := bthen HB hb5
        go_wp2_with (go_at_call 15; refine (sniffs_any _ (HG.out.below HB)).mono ?_; rintro e w6 ⟨rfl, hb6⟩)
        all_goals
          go_ret
          exact ⟨rfl, bthen HB hb6⟩
      · subst h1 h2
        clear parts
        go_enter Tryd.func4, Tryd.ntmps4
        go_wp2_with fail
        refine (mark_any _ _ HG.out).mono ?_
        rintro e w1 ⟨rfl, hd1⟩
        rw [HM.out]
        go_wp2_with fail
        refine (mark_any _ _ (HG.out.drew hd1)).mono ?_
        rintro e w2 ⟨rfl, hd2⟩
        rw [HM2.out]
        have HD := hd1.trans hd2
        go_wp2_with fail
        refine (mayMark_any _ _ (HG.out.drew HD) HZ1.out).mono ?_
        rintro e w3 ⟨rfl, hd3⟩
        rw [HP.out]
        replace HD := HD.trans hd3
        go_wp2_with fail
        refine (mayMark_any _ _ (HG.out.drew HD) HZ2.out).mono ?_
        rintro e w3 ⟨rfl, hd3⟩
        rw [HQ.out]
        replace HD := HD.trans hd3
        have HB := HD.below (B := w.heap.size)
        go_wp2_with fail
        refine (labelFn_any _ _ HZ1.out).mono ?_
        rintro e w4 ⟨rfl, hb4⟩
        rw [HL.out]
        replace HB := bthen HB hb4
        go_wp2_with fail
        refine (labelFn_any _ _ HZ2.out).mono ?_
        rintro e w5 ⟨rfl, hb5⟩
        rw [HL2.out]
        replace HB := bthen HB hb5
        go_wp2_with (go_at_call 15; refine (sniffs_any _ (HG.out.below HB)).mono ?_; rintro e w6 ⟨rfl, hb6⟩)
        all_goals
          go_ret
          exact ⟨rfl, bthen HB hb6⟩
    | true =>
      clear k1
      subst ha
      refine parts _ (fun h1 h2 h3 => ?_) (fun h1 h2 => ?_)
      · subst h1 h2 h3
        clear parts
        go_enter Tryd.func4, Tryd.ntmps4
        go_wp2_with fail
        refine (mark_any _ _ HG.out).mono ?_
        rintro e w1 ⟨rfl, hd1⟩
        rw [HM.out]
        go_wp2_with fail
        refine (mark_any _ _ (HG.out.drew hd1)).mono ?_
        rintro e w2 ⟨rfl, hd2⟩
        rw [HM2.out]
        have HD := hd1.trans hd2
        go_wp2_with fail
        refine (mayMark_any _ _ (HG.out.drew HD) HZ1.out).mono ?_
        rintro e w3 ⟨rfl, hd3⟩
        rw [HP.out]
        replace HD := HD.trans hd3
        have HB := HD.below (B := w.heap.size)
        go_wp2_with fail
        refine (labelFn_any _ _ HZ1.out).mono ?_
        rintro e w4 ⟨rfl, hb4⟩
        rw [HL.out]
        replace HB := bthen HB hb4
        go_wp2_with fail
        refine (labelFn_any _ _ HZ2.out).mono ?_
        rintro e w5 ⟨rfl, hb5⟩
        rw [HL2.out]
        replace HB := bthen HB hb5
        go_wp2_with (go_at_call 15; refine (sniffs_any _ (HG.out.below HB)).mono ?_; rintro e w6 ⟨rfl, hb6⟩)
        all_goals
          go_ret
          exact ⟨rfl, bthen HB hb6⟩
      · subst h1 h2
        clear parts
        go_enter Tryd.func4, Tryd.ntmps4
        go_wp2_with fail
        refine (mark_any _ _ HG.out).mono ?_
        rintro e w1 ⟨rfl, hd1⟩
        rw [HM.out]
        go_wp2_with fail
        refine (mark_any _ _ (HG.out.drew hd1)).mono ?_
        rintro e w2 ⟨rfl, hd2⟩
        rw [HM2.out]
        have HD := hd1.trans hd2
        go_wp2_with fail
        refine (mayMark_any _ _ (HG.out.drew HD) HZ1.out).mono ?_
        rintro e w3 ⟨rfl, hd3⟩
        rw [HP.out]
        replace HD := HD.trans hd3
        have HB := HD.below (B := w.heap.size)
        go_wp2_with fail
        refine (labelFn_any _ _ HZ1.out).mono ?_
        rintro e w4 ⟨rfl, hb4⟩
        rw [HL.out]
        replace HB := bthen HB hb4
        go_wp2_with fail
        refine (labelFn_any _ _ HZ2.out).mono ?_
        rintro e w5 ⟨rfl, hb5⟩
        rw [HL2.out]
        replace HB := bthen HB hb5
        go_wp2_with (go_at_call 15; refine (sniffs_any _ (HG.out.below HB)).mono ?_; rintro e w6 ⟨rfl, hb6⟩)
        all_goals
          go_ret
          exact ⟨rfl, bthen HB hb6⟩
  · obtain ⟨e1, rfl⟩ := k1 (.inl ha)
    clear k1
    injection e1 with e1 e2
    subst e1 e2
    have ha1 : (b != 0) = true := by rw [bne_iff_ne]; exact ha
    clear ha
    refine parts _ (fun h1 h2 h3 => ?_) (fun h1 h2 => ?_)
    · subst h1 h2 h3
      clear parts
      go_enter Tryd.func4, Tryd.ntmps4
      go_wp2_with fail
      refine (mark_any _ _ HG.out).mono ?_
      rintro e w1 ⟨rfl, hd1⟩
      rw [HM.out]
      go_wp2_with fail
      refine (mark_any _ _ (HG.out.drew hd1)).mono ?_
      rintro e w2 ⟨rfl, hd2⟩
      rw [HM2.out]
      have HD := hd1.trans hd2
      go_wp2_with fail
      refine (mayMark_any _ _ (HG.out.drew HD) HZ2.out).mono ?_
      rintro e w3 ⟨rfl, hd3⟩
      rw [HQ.out]
      replace HD := HD.trans hd3
      have HB := HD.below (B := w.heap.size)
      go_wp2_with fail
      refine (labelFn_any _ _ HZ1.out).mono ?_
      rintro e w4 ⟨rfl, hb4⟩
      rw [HL.out]
      replace HB := bthen HB hb4
      go_wp2_with fail
      refine (labelFn_any _ _ HZ2.out).mono ?_
      rintro e w5 ⟨rfl, hb5⟩
      rw [HL2.out]
      replace HB := bthen HB hb5
      go_wp2_with (go_at_call 15; refine (sniffs_any _ (HG.out.below HB)).mono ?_; rintro e w6 ⟨rfl, hb6⟩)
      all_goals
        go_ret
        exact ⟨rfl, bthen HB hb6⟩
    · subst h1 h2
      clear parts
      go_enter Tryd.func4, Tryd.ntmps4
      go_wp2_with fail
      refine (mark_any _ _ HG.out).mono ?_
      rintro e w1 ⟨rfl, hd1⟩
      rw [HM.out]
      go_wp2_with fail
      refine (mark_any _ _ (HG.out.drew hd1)).mono ?_
      rintro e w2 ⟨rfl, hd2⟩
      rw [HM2.out]
      have HD := hd1.trans hd2
      go_wp2_with fail
      refine (mayMark_any _ _ (HG.out.drew HD) HZ2.out).mono ?_
      rintro e w3 ⟨rfl, hd3⟩
      rw [HQ.out]
      replace HD := HD.trans hd3
      have HB := HD.below (B := w.heap.size)
      go_wp2_with fail
      refine (labelFn_any _ _ HZ1.out).mono ?_
      rintro e w4 ⟨rfl, hb4⟩
      rw [HL.out]
      replace HB := bthen HB hb4
      go_wp2_with fail
      refine (labelFn_any _ _ HZ2.out).mono ?_
      rintro e w5 ⟨rfl, hb5⟩
      rw [HL2.out]
      replace HB := bthen HB hb5
      go_wp2_with (go_at_call 15; refine (sniffs_any _ (HG.out.below HB)).mono ?_; rintro e w6 ⟨rfl, hb6⟩)
      all_goals
        go_ret
        exact ⟨rfl, bthen HB hb6⟩
end Go.Proofs.YtefohnbmifblkaaDoor
