/-
  The walk of score.Best: it returns what the plain function best says.
-/
import Derived.Test.YtefohnbmifblkabDoorAuB
import Derived.Laws.Rows
namespace Go.Proofs.YtefohnbmifblkabDoor
open Go.RowKit

/-- the best among the first j encodings (0: none). -/
def bestTo (sc : Nat → Int) : Nat → Nat
  | 0 => 0
  | j + 1 => if Pl.aEnds ((j + 1 : Nat) : Int) (sc ((j + 1) * 2)) = true ∧ (bestTo sc j = 0 ∨ sc (bestTo sc j * 2 + 1) < sc ((j + 1) * 2 + 1)) then j + 1 else bestTo sc j
theorem bestTo_le (sc : Nat → Int) : ∀ j, bestTo sc j ≤ j
  | 0 => Nat.le_refl _
  | j + 1 => by
    have := bestTo_le sc j
    unfold bestTo
    split <;> omega

set_option maxRecDepth 100000 in
set_option maxHeartbeats 1000000 in
theorem best_any (sc : Nat → Int) (w : World) :
    Calls Tryd.prog 34 #[.agg #[.int .i64 (sc 0), .int .i64 (sc 1), .int .i64 (sc 2), .int .i64 (sc 3), .int .i64 (sc 4), .int .i64 (sc 5), .int .i64 (sc 6), .int .i64 (sc 7), .int .i64 (sc 8), .int .i64 (sc 9), .int .i64 (sc 10), .int .i64 (sc 11), .int .i64 (sc 12), .int .i64 (sc 13)]] w fun e w' => e = .returned (.int .i64 (bestTo sc 6)) ∧ Below w.heap.size w w' := by
  go_enter Tryd.func34, Tryd.ntmps34
  go_wp2_with fail
  have hcell : ∀ k, k < 14 → (w.alloc (.cells #[.int .i64 (sc 0), .int .i64 (sc 1), .int .i64 (sc 2), .int .i64 (sc 3), .int .i64 (sc 4), .int .i64 (sc 5), .int .i64 (sc 6), .int .i64 (sc 7), .int .i64 (sc 8), .int .i64 (sc 9), .int .i64 (sc 10), .int .i64 (sc 11), .int .i64 (sc 12), .int .i64 (sc 13)] 54)).cell? ⟨w.heap.size, k, none⟩ = some (.int .i64 (sc k)) := by
    intro k hk
    rw [World.cell?_alloc_at _ _ _ _ rfl]
    rcases (show k = 0 ∨ k = 1 ∨ k = 2 ∨ k = 3 ∨ k = 4 ∨ k = 5 ∨ k = 6 ∨ k = 7 ∨ k = 8 ∨ k = 9 ∨ k = 10 ∨ k = 11 ∨ k = 12 ∨ k = 13 by omega) with rfl | rfl | rfl | rfl | rfl | rfl | rfl | rfl | rfl | rfl | rfl | rfl | rfl | rfl <;> rfl
  have hb : Below w.heap.size w (w.alloc (.cells #[.int .i64 (sc 0), .int .i64 (sc 1), .int .i64 (sc 2), .int .i64 (sc 3), .int .i64 (sc 4), .int .i64 (sc 5), .int .i64 (sc 6), .int .i64 (sc 7), .int .i64 (sc 8), .int .i64 (sc 9), .int .i64 (sc 10), .int .i64 (sc 11), .int .i64 (sc 12), .int .i64 (sc 13)] 54)) := (Below.refl _ _).alloc (Nat.le_refl _) _
  have HC := Lib.hid hcell
  have HB := Lib.hid hb
  clear hcell hb
  generalize w.alloc _ = w0 at HC HB ⊢
  obtain ⟨g, hg⟩ : ∃ g, w.heap.size = g := ⟨_, rfl⟩
  rw [hg] at HC HB ⊢
  have Hg := Lib.hid hg
  clear hg
  go_loopw [3, 4] (fun bst e wr => Drew w0 wr ∧ ∃ j m : Nat, j ≤ 6 ∧ bst = .int .i64 m ∧ e = .int .i64 ((j + 1 : Nat) : Int) ∧ Hid (bestTo sc j = m)) (fun _ e _ => 8 - (intOf e).toNat)
  case atStart => exact ⟨Drew.refl _, 0, 0, by omega, rfl, rfl, Lib.hid rfl⟩
  case round =>
    obtain ⟨hd, j, m, hj6, rfl, rfl, HBt⟩ := hrel
    obtain ⟨k, hk⟩ : ∃ k, j + 1 = k := ⟨_, rfl⟩
    have hmj : m ≤ j := by rw [← HBt.out]; exact bestTo_le sc j
    have HS := Lib.hid (show bestTo sc k = if Pl.aEnds (k : Int) (sc (k * 2)) = true ∧ (m = 0 ∨ sc (m * 2 + 1) < sc (k * 2 + 1)) then k else m by rw [← hk, bestTo, HBt.out])
    by_cases hlt : j < 6
    · rw [hk]
      have hk6 : k ≤ 6 := by omega
      have hmk : m < k := by omega
      have HK := Lib.hid hk
      clear hk
      have i1 : (k : Int) < 7 := by omega
      have i2 : (m : Int) < 7 := by omega
      have c1 := (hd.cell _).trans (HC.out (k * 2) (by omega))
      have c2 := (hd.cell _).trans (HC.out (k * 2 + 1) (by omega))
      have c3 := (hd.cell _).trans (HC.out (m * 2 + 1) (by omega))
      have HE : ∀ (E : Bool), Pl.aEnds (k : Int) (sc (k * 2)) = E → Hid (∀ W : World, Calls Tryd.prog 26 #[.int .i64 (k : Int), .int .i64 (sc (k * 2))] W fun e w' => e = .returned (.bool E) ∧ W = w') := fun E h => Lib.hid fun W => h ▸ aEnds_any _ _ W
      cases hE : Pl.aEnds (k : Int) (sc (k * 2))
      · replace HE := HE _ hE
        have HN := Lib.hid (show bestTo sc k = m by rw [HS.out, if_neg (by rw [hE]; simp)])
        clear HS hE
        go_wp2_with fail
        go_quiet ((go_at_call 26; exact quiet_left (HE.out _)))
        go_wp2_with fail
        go_roundw
        case rel => exact ⟨hd.drewN _, k, m, by omega, rfl, by go_num, HN⟩
        case measure => simp [intOf]; omega
      · replace HE := HE _ hE
        by_cases hm0 : m = 0
        · have HN := Lib.hid (show bestTo sc k = k by rw [HS.out, if_pos ⟨hE, .inl hm0⟩])
          have hmb : ((m : Int) == 0) = true := beq_iff_eq.2 (by omega)
          clear HS hm0 hE
          go_wp2_with fail
          go_quiet ((go_at_call 26; exact quiet_left (HE.out _)))
          go_wp2_with fail
          go_roundw
          case rel => exact ⟨hd.drewN _, k, k, by omega, rfl, by go_num, HN⟩
          case measure => simp [intOf]; omega
        · have hmb : ((m : Int) == 0) = false := beq_eq_false_iff_ne.2 (by omega)
          by_cases hgt : sc (m * 2 + 1) < sc (k * 2 + 1)
          · have HN := Lib.hid (show bestTo sc k = k by rw [HS.out, if_pos ⟨hE, .inr hgt⟩])
            clear HS hm0 hE
            go_wp2_with fail
            go_quiet ((go_at_call 26; exact quiet_left (HE.out _)))
            go_wp2_with fail
            go_roundw
            case rel => exact ⟨hd.drewN _, k, k, by omega, rfl, by go_num, HN⟩
            case measure => simp [intOf]; omega
          · have HN := Lib.hid (show bestTo sc k = m by rw [HS.out, if_neg (by rintro ⟨_, h | h⟩; exact hm0 h; exact hgt h)])
            have hgf : decide (sc (m * 2 + 1) < sc (k * 2 + 1)) = false := decide_eq_false hgt
            clear HS hm0 hgt hE
            go_wp2_with fail
            go_quiet ((go_at_call 26; exact quiet_left (HE.out _)))
            go_wp2_with fail
            go_roundw
            case rel => exact ⟨hd.drewN _, k, m, by omega, rfl, by go_num, HN⟩
            case measure => simp [intOf]; omega
    · have hj : j = 6 := by omega
      subst hj
      have hf : ¬ (((6 + 1 : Nat) : Int) ≤ 6) := by omega
      clear hk HS
      go_wp2_with fail
      go_ret
      exact ⟨ret_int (by rw [HBt.out]), by rw [Hg.out]; exact HB.out.trans hd.below⟩
end Go.Proofs.YtefohnbmifblkabDoor
