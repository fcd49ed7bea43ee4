/-
  The walks of sniff.Mark and sniff.MayMark, in every world that holds the two tables of marks: they return what the plain functions mark and mayMark say; nothing that was there is changed.
-/
import Derived.Test.YtefohnbmifblkabDoorPlA
import Derived.Test.YtefohnbmifblkabDoorMem
import Derived.Test.YtefohnbmifblkabDoorRows
import Derived.Test.YtefohnbmifblkabDoorShelf
namespace Go.Proofs.YtefohnbmifblkabDoor
open Go.RowKit

/-- The program's two tables, as their initialisers lay them. -/
structure Gl (w : World) : Prop where
  m0 : w.cell? ⟨0, 0, none⟩ = some (.string ⟨#[]⟩)
  m1 : w.cell? ⟨0, 1, none⟩ = some (.string ⟨#[239, 187, 191]⟩)
  m2 : w.cell? ⟨0, 2, none⟩ = some (.string ⟨#[255, 254]⟩)
  m3 : w.cell? ⟨0, 3, none⟩ = some (.string ⟨#[254, 255]⟩)
  e0 : w.cell? ⟨1, 0, none⟩ = some (.int .i64 0)
  e1 : w.cell? ⟨1, 1, none⟩ = some (.int .i64 1)
  e2 : w.cell? ⟨1, 2, none⟩ = some (.int .i64 5)
  e3 : w.cell? ⟨1, 3, none⟩ = some (.int .i64 6)

theorem Gl.below {w w' : World} (h : Gl w) (hb : Below w.heap.size w w') : Gl w' := by
  obtain ⟨hc, _⟩ := bcell hb
  have b0 := lt_of_cell h.m0
  have b1 := lt_of_cell h.e0
  exact ⟨(hc _ _ b0).trans h.m0, (hc _ _ b0).trans h.m1, (hc _ _ b0).trans h.m2, (hc _ _ b0).trans h.m3, (hc _ _ b1).trans h.e0, (hc _ _ b1).trans h.e1, (hc _ _ b1).trans h.e2, (hc _ _ b1).trans h.e3⟩
theorem Gl.drew {w w' : World} (h : Gl w) (hd : Drew w w') : Gl w' := h.below hd.below

set_option maxHeartbeats 1000000 in
theorem mark_any (s : ByteArray) (w : World) (hg : Gl w) :
    Calls Tryd.prog 27 #[.string s] w fun e w' => e = .returned (.tuple #[.int .i64 (Pl.mark s.data.toList).1, .int .i64 (Pl.mark s.data.toList).2]) ∧ Drew w w' := by
  obtain ⟨P1, h1⟩ : ∃ P, Lib.hasPrefix s.data.toList [239, 187, 191] = P := ⟨_, rfl⟩
  obtain ⟨P2, h2⟩ : ∃ P, Lib.hasPrefix s.data.toList [255, 254] = P := ⟨_, rfl⟩
  obtain ⟨P3, h3⟩ : ∃ P, Lib.hasPrefix s.data.toList [254, 255] = P := ⟨_, rfl⟩
  have hm : Pl.mark s.data.toList = if P1 = true then (1, 3) else if P2 = true then (5, 2) else if P3 = true then (6, 2) else (0, 0) := by
    unfold Pl.mark
    rw [← h1, ← h2, ← h3]
    rfl
  rw [hm]
  clear hm
  have H1 := Lib.hid h1
  have H2 := Lib.hid h2
  have H3 := Lib.hid h3
  clear h1 h2 h3
  obtain ⟨m0, m1, m2, m3, e0, e1, e2, e3⟩ := hg
  go_enter Tryd.func27, Tryd.ntmps27
  go_wp2
  go_loopw [8] (fun i wr => Drew w wr ∧ (i = .int .i64 0 ∨ i = .int .i64 1 ∨ (i = .int .i64 2 ∧ P1 = false) ∨ (i = .int .i64 3 ∧ P1 = false ∧ P2 = false) ∨ (i = .int .i64 4 ∧ P1 = false ∧ P2 = false ∧ P3 = false))) (fun i _ => 4 - (intOf i).toNat)
  case atStart => exact ⟨Drew.refl _, .inl rfl⟩
  case round =>
    obtain ⟨hd, hrel⟩ := hrel
    have hc := hd.cell
    rw [← hc] at m0 m1 m2 m3 e0 e1 e2 e3
    clear hc
    rcases hrel with rfl | rfl | ⟨rfl, rfl⟩ | ⟨rfl, rfl, rfl⟩ | ⟨rfl, rfl, rfl, rfl⟩
    · go_wp2
      go_roundw
      case rel => exact ⟨hd, .inr (.inl rfl)⟩
      case measure => simp [intOf]
    · cases P1
      · go_wp2_with (go_at_call 43; refine (Tryd.strings_HasPrefix _ _ _).mono ?_; rintro e w1 ⟨rfl, hw⟩; subst hw; rw [show (⟨#[239, 187, 191]⟩ : ByteArray).data.toList = [239, 187, 191] from rfl, H1.out])
        go_roundw
        case rel => exact ⟨hd, .inr (.inr (.inl ⟨rfl, trivial⟩))⟩
        case measure => simp [intOf]
      · go_wp2_with (go_at_call 43; refine (Tryd.strings_HasPrefix _ _ _).mono ?_; rintro e w1 ⟨rfl, hw⟩; subst hw; rw [show (⟨#[239, 187, 191]⟩ : ByteArray).data.toList = [239, 187, 191] from rfl, H1.out])
        go_ret2
        exact ⟨rfl, hd⟩
    · cases P2
      · go_wp2_with (go_at_call 43; refine (Tryd.strings_HasPrefix _ _ _).mono ?_; rintro e w1 ⟨rfl, hw⟩; subst hw; rw [show (⟨#[255, 254]⟩ : ByteArray).data.toList = [255, 254] from rfl, H2.out])
        go_roundw
        case rel => exact ⟨hd, .inr (.inr (.inr (.inl ⟨rfl, trivial, trivial⟩)))⟩
        case measure => simp [intOf]
      · go_wp2_with (go_at_call 43; refine (Tryd.strings_HasPrefix _ _ _).mono ?_; rintro e w1 ⟨rfl, hw⟩; subst hw; rw [show (⟨#[255, 254]⟩ : ByteArray).data.toList = [255, 254] from rfl, H2.out])
        go_ret2
        exact ⟨rfl, hd⟩
    · cases P3
      · go_wp2_with (go_at_call 43; refine (Tryd.strings_HasPrefix _ _ _).mono ?_; rintro e w1 ⟨rfl, hw⟩; subst hw; rw [show (⟨#[254, 255]⟩ : ByteArray).data.toList = [254, 255] from rfl, H3.out])
        go_roundw
        case rel => exact ⟨hd, .inr (.inr (.inr (.inr ⟨rfl, trivial, trivial, trivial⟩)))⟩
        case measure => simp [intOf]
      · go_wp2_with (go_at_call 43; refine (Tryd.strings_HasPrefix _ _ _).mono ?_; rintro e w1 ⟨rfl, hw⟩; subst hw; rw [show (⟨#[254, 255]⟩ : ByteArray).data.toList = [254, 255] from rfl, H3.out])
        go_ret2
        exact ⟨rfl, hd⟩
    · go_wp2
      go_ret2
      exact ⟨rfl, hd⟩

theorem may_in (m : List UInt8) (s : ByteArray) (h : s.size < m.length) : (((⟨m.toArray⟩ : ByteArray).extract 0 s.size).toList == s.toList) = Pl.may1 m s.data.toList := by
  unfold Pl.may1
  rw [Lib.toList_data, Lib.toList_data, Lib.extract_data, ← Lib.size_eq, decide_eq_true h, Bool.true_and]
  rfl
theorem may_out (m : List UInt8) (s : ByteArray) (h : ¬ s.size < m.length) : Pl.may1 m s.data.toList = false := by
  unfold Pl.may1
  rw [← Lib.size_eq, decide_eq_false h, Bool.false_and]

set_option maxHeartbeats 1000000 in
theorem mayMark_any (s : ByteArray) (w : World) (hg : Gl w) (hs : s.size ≤ maxLen) :
    Calls Tryd.prog 33 #[.string s] w fun e w' => e = .returned (.bool (Pl.mayMark s.data.toList)) ∧ Drew w w' := by
  unfold maxLen at hs
  obtain ⟨P1, h1⟩ : ∃ P, Pl.may1 [239, 187, 191] s.data.toList = P := ⟨_, rfl⟩
  obtain ⟨P2, h2⟩ : ∃ P, Pl.may1 [255, 254] s.data.toList = P := ⟨_, rfl⟩
  obtain ⟨P3, h3⟩ : ∃ P, Pl.may1 [254, 255] s.data.toList = P := ⟨_, rfl⟩
  have hm : Pl.mayMark s.data.toList = (P1 || P2 || P3) := by
    unfold Pl.mayMark
    rw [h1, h2, h3]
  rw [hm]
  clear hm
  have H1 := Lib.hid h1
  have H2 := Lib.hid h2
  have H3 := Lib.hid h3
  clear h1 h2 h3
  obtain ⟨m0, m1, m2, m3, e0, e1, e2, e3⟩ := hg
  clear e0 e1 e2 e3
  go_enter Tryd.func33, Tryd.ntmps33
  go_wp2
  go_loopw [7] (fun i wr => Drew w wr ∧ (i = .int .i64 0 ∨ (i = .int .i64 1 ∧ P1 = false) ∨ (i = .int .i64 2 ∧ P1 = false ∧ P2 = false) ∨ (i = .int .i64 3 ∧ P1 = false ∧ P2 = false ∧ P3 = false))) (fun i _ => 4 - (intOf i).toNat)
  case atStart => exact ⟨Drew.refl _, .inl rfl⟩
  case round =>
    obtain ⟨hd, hrel⟩ := hrel
    have hc := hd.cell
    rw [← hc] at m0 m1 m2 m3
    clear hc
    rcases hrel with rfl | ⟨rfl, rfl⟩ | ⟨rfl, rfl, rfl⟩ | ⟨rfl, rfl, rfl, rfl⟩
    · by_cases hl : s.size < 3
      · have T := may_in [239, 187, 191] s hl
        rw [H1.out] at T
        have T' : (((⟨#[239, 187, 191]⟩ : ByteArray).extract 0 s.size).toList == s.toList) = P1 := T
        clear T
        cases P1
        · go_wp2
          go_roundw
          case rel => exact ⟨hd, .inr (.inl ⟨rfl, trivial⟩)⟩
          case measure => simp [intOf]
        · go_wp2
          go_ret
          exact ⟨ret_bool (by simp), hd⟩
      · obtain rfl : P1 = false := by rw [← H1.out]; exact may_out _ s hl
        go_wp2
        go_roundw
        case rel => exact ⟨hd, .inr (.inl ⟨rfl, trivial⟩)⟩
        case measure => simp [intOf]
    · by_cases hl : s.size < 2
      · have T := may_in [255, 254] s hl
        rw [H2.out] at T
        have T' : (((⟨#[255, 254]⟩ : ByteArray).extract 0 s.size).toList == s.toList) = P2 := T
        clear T
        cases P2
        · go_wp2
          go_roundw
          case rel => exact ⟨hd, .inr (.inr (.inl ⟨rfl, trivial, trivial⟩))⟩
          case measure => simp [intOf]
        · go_wp2
          go_ret
          exact ⟨ret_bool (by simp), hd⟩
      · obtain rfl : P2 = false := by rw [← H2.out]; exact may_out _ s hl
        go_wp2
        go_roundw
        case rel => exact ⟨hd, .inr (.inr (.inl ⟨rfl, trivial, trivial⟩))⟩
        case measure => simp [intOf]
    · by_cases hl : s.size < 2
      · have T := may_in [254, 255] s hl
        rw [H3.out] at T
        have T' : (((⟨#[254, 255]⟩ : ByteArray).extract 0 s.size).toList == s.toList) = P3 := T
        clear T
        cases P3
        · go_wp2
          go_roundw
          case rel => exact ⟨hd, .inr (.inr (.inr ⟨rfl, trivial, trivial, trivial⟩))⟩
          case measure => simp [intOf]
        · go_wp2
          go_ret
          exact ⟨ret_bool (by simp), hd⟩
      · obtain rfl : P3 = false := by rw [← H3.out]; exact may_out _ s hl
        go_wp2
        go_roundw
        case rel => exact ⟨hd, .inr (.inr (.inr ⟨rfl, trivial, trivial, trivial⟩))⟩
        case measure => simp [intOf]
    · go_wp2
      go_ret
      exact ⟨rfl, hd⟩
end Go.Proofs.YtefohnbmifblkabDoor
