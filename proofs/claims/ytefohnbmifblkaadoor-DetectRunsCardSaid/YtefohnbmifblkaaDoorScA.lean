/-
  The walks of score.Step and score.Best, at the seven pairs written out: they return what the plain functions say.
-/
import Derived.Test.YtefohnbmifblkaaDoorAuB
import Derived.Laws.Rows
import Derived.Laws.Tables
import Derived.Test.YtefohnbmifblkaaDoorMem
import Derived.Test.YtefohnbmifblkaaDoorSnF
import Derived.Test.YtefohnbmifblkaaDoorSnA
namespace Go.Proofs.YtefohnbmifblkaaDoor
open Go.RowKit

theorem bound_small (n : Int) (w : World) (h : -1000000 ≤ n ∧ n ≤ 1000000) :
    Calls Tryd.prog 64 #[.int .i64 n] w fun x w' => x = .returned (.int .i64 n) ∧ w = w' := bound_any n w (by omega) (by omega)

set_option maxRecDepth 100000 in
set_option maxHeartbeats 8000000 in
theorem sStep_first (x0 y0 a1 b1 a2 b2 a3 b3 a4 b4 a5 b5 a6 b6 b : Int) (w : World) (hx0 : 0 ≤ b) (hx1 : b ≤ 255) (ha1 : Hid (0 ≤ a1 ∧ a1 ≤ 9)) (ha2 : Hid (0 ≤ a2 ∧ a2 ≤ 9)) (ha3 : Hid (0 ≤ a3 ∧ a3 ≤ 9)) (ha4 : Hid (0 ≤ a4 ∧ a4 ≤ 9)) (ha5 : Hid (0 ≤ a5 ∧ a5 ≤ 9)) (ha6 : Hid (0 ≤ a6 ∧ a6 ≤ 9)) :
    Calls Tryd.prog 48 #[.agg #[.int .i64 x0, .int .i64 y0, .int .i64 a1, .int .i64 b1, .int .i64 a2, .int .i64 b2, .int .i64 a3, .int .i64 b3, .int .i64 a4, .int .i64 b4, .int .i64 a5, .int .i64 b5, .int .i64 a6, .int .i64 b6], .int .i64 (-1), .int .i64 b] w fun e w' => e = .returned (.agg #[.int .i64 x0, .int .i64 y0, .int .i64 (Pl.aStep 1 a1 b), .int .i64 b1, .int .i64 (Pl.aStep 2 a2 b), .int .i64 b2, .int .i64 (Pl.aStep 3 a3 b), .int .i64 b3, .int .i64 (Pl.aStep 4 a4 b), .int .i64 b4, .int .i64 (Pl.aStep 5 a5 b), .int .i64 b5, .int .i64 (Pl.aStep 6 a6 b), .int .i64 b6]) ∧ Below w.heap.size w w' := by
  go_enter Tryd.func48, Tryd.ntmps48
  go_wp2_with fail
  refine wp_loop_rounds 7 ?_
  rw [rounds_succ]
  go_wp2_with fail
  refine (aStep_any _ _ _ _ (by omega) (by omega) ha1.out.1 ha1.out.2 hx0 hx1).mono ?_
  rintro e w1 ⟨rfl, hw⟩
  subst hw
  go_wp2_with fail
  rw [rounds_succ]
  go_wp2_with fail
  refine (aStep_any _ _ _ _ (by omega) (by omega) ha2.out.1 ha2.out.2 hx0 hx1).mono ?_
  rintro e w1 ⟨rfl, hw⟩
  subst hw
  go_wp2_with fail
  rw [rounds_succ]
  go_wp2_with fail
  refine (aStep_any _ _ _ _ (by omega) (by omega) ha3.out.1 ha3.out.2 hx0 hx1).mono ?_
  rintro e w1 ⟨rfl, hw⟩
  subst hw
  go_wp2_with fail
  rw [rounds_succ]
  go_wp2_with fail
  refine (aStep_any _ _ _ _ (by omega) (by omega) ha4.out.1 ha4.out.2 hx0 hx1).mono ?_
  rintro e w1 ⟨rfl, hw⟩
  subst hw
  go_wp2_with fail
  rw [rounds_succ]
  go_wp2_with fail
  refine (aStep_any _ _ _ _ (by omega) (by omega) ha5.out.1 ha5.out.2 hx0 hx1).mono ?_
  rintro e w1 ⟨rfl, hw⟩
  subst hw
  go_wp2_with fail
  rw [rounds_succ]
  go_wp2_with fail
  refine (aStep_any _ _ _ _ (by omega) (by omega) ha6.out.1 ha6.out.2 hx0 hx1).mono ?_
  rintro e w1 ⟨rfl, hw⟩
  subst hw
  go_wp2_with fail
  rw [rounds_succ]
  go_wp2_with fail
  refine bodyPost_ret (v := .agg #[.int .i64 x0, .int .i64 y0, .int .i64 (Pl.aStep 1 a1 b), .int .i64 b1, .int .i64 (Pl.aStep 2 a2 b), .int .i64 b2, .int .i64 (Pl.aStep 3 a3 b), .int .i64 b3, .int .i64 (Pl.aStep 4 a4 b), .int .i64 b4, .int .i64 (Pl.aStep 5 a5 b), .int .i64 b5, .int .i64 (Pl.aStep 6 a6 b), .int .i64 b6]) (by simp [results, Tryd.results48, go_sem]) rfl ⟨rfl, ?_⟩
  repeat (first | exact Below.refl _ _ | refine Below.alloc ?_ (by simp) _ | refine Below.setCell ?_ (by simp) _)

set_option maxRecDepth 100000 in
set_option maxHeartbeats 16000000 in
theorem sStep_later (x0 y0 a1 b1 a2 b2 a3 b3 a4 b4 a5 b5 a6 b6 last b : Int) (w : World) (hl0 : 0 ≤ last) (hl1 : last ≤ 255) (hx0 : 0 ≤ b) (hx1 : b ≤ 255) (ha1 : Hid (0 ≤ a1 ∧ a1 ≤ 9)) (ha2 : Hid (0 ≤ a2 ∧ a2 ≤ 9)) (ha3 : Hid (0 ≤ a3 ∧ a3 ≤ 9)) (ha4 : Hid (0 ≤ a4 ∧ a4 ≤ 9)) (ha5 : Hid (0 ≤ a5 ∧ a5 ≤ 9)) (ha6 : Hid (0 ≤ a6 ∧ a6 ≤ 9)) (hb1 : Hid (-1000000 ≤ b1 ∧ b1 ≤ 1000000)) (hb2 : Hid (-1000000 ≤ b2 ∧ b2 ≤ 1000000)) (hb3 : Hid (-1000000 ≤ b3 ∧ b3 ≤ 1000000)) (hb4 : Hid (-1000000 ≤ b4 ∧ b4 ≤ 1000000)) (hb5 : Hid (-1000000 ≤ b5 ∧ b5 ≤ 1000000)) (hb6 : Hid (-1000000 ≤ b6 ∧ b6 ≤ 1000000)) :
    Calls Tryd.prog 48 #[.agg #[.int .i64 x0, .int .i64 y0, .int .i64 a1, .int .i64 b1, .int .i64 a2, .int .i64 b2, .int .i64 a3, .int .i64 b3, .int .i64 a4, .int .i64 b4, .int .i64 a5, .int .i64 b5, .int .i64 a6, .int .i64 b6], .int .i64 last, .int .i64 b] w fun e w' => e = .returned (.agg #[.int .i64 x0, .int .i64 y0, .int .i64 (Pl.aStep 1 a1 b), .int .i64 (b1 + Pl.weight 1 last b), .int .i64 (Pl.aStep 2 a2 b), .int .i64 (b2 + Pl.weight 2 last b), .int .i64 (Pl.aStep 3 a3 b), .int .i64 (b3 + Pl.weight 3 last b), .int .i64 (Pl.aStep 4 a4 b), .int .i64 (b4 + Pl.weight 4 last b), .int .i64 (Pl.aStep 5 a5 b), .int .i64 (b5 + Pl.weight 5 last b), .int .i64 (Pl.aStep 6 a6 b), .int .i64 (b6 + Pl.weight 6 last b)]) ∧ Below w.heap.size w w' := by
  go_enter Tryd.func48, Tryd.ntmps48
  go_wp2_with fail
  refine wp_loop_rounds 7 ?_
  rw [rounds_succ]
  go_wp2_with fail
  refine (aStep_any _ _ _ _ (by omega) (by omega) ha1.out.1 ha1.out.2 hx0 hx1).mono ?_
  rintro e w1 ⟨rfl, hw⟩
  subst hw
  go_wp2_with fail
  refine (bound_small _ _ hb1.out).mono ?_
  rintro e w1 ⟨rfl, hw⟩
  subst hw
  go_wp2_with fail
  refine (weight_any _ _ _ _ (by omega) (by omega) hl0 hl1 hx0 hx1).mono ?_
  rintro e w1 ⟨rfl, hw⟩
  subst hw
  have hbl1 := hb1.out.1
  have hbu1 := hb1.out.2
  have hwl1 : -1 ≤ Pl.weight 1 last b := (Pl.wgt_range _ _ _ _ _).1
  have hwu1 : Pl.weight 1 last b ≤ 8 := (Pl.wgt_range _ _ _ _ _).2
  go_wp2_with fail
  clear hbl1 hbu1 hwl1 hwu1
  rw [rounds_succ]
  go_wp2_with fail
  refine (aStep_any _ _ _ _ (by omega) (by omega) ha2.out.1 ha2.out.2 hx0 hx1).mono ?_
  rintro e w1 ⟨rfl, hw⟩
  subst hw
  go_wp2_with fail
  refine (bound_small _ _ hb2.out).mono ?_
  rintro e w1 ⟨rfl, hw⟩
  subst hw
  go_wp2_with fail
  refine (weight_any _ _ _ _ (by omega) (by omega) hl0 hl1 hx0 hx1).mono ?_
  rintro e w1 ⟨rfl, hw⟩
  subst hw
  have hbl2 := hb2.out.1
  have hbu2 := hb2.out.2
  have hwl2 : -1 ≤ Pl.weight 2 last b := (Pl.wgt_range _ _ _ _ _).1
  have hwu2 : Pl.weight 2 last b ≤ 8 := (Pl.wgt_range _ _ _ _ _).2
  go_wp2_with fail
  clear hbl2 hbu2 hwl2 hwu2
  rw [rounds_succ]
  go_wp2_with fail
  refine (aStep_any _ _ _ _ (by omega) (by omega) ha3.out.1 ha3.out.2 hx0 hx1).mono ?_
  rintro e w1 ⟨rfl, hw⟩
  subst hw
  go_wp2_with fail
  refine (bound_small _ _ hb3.out).mono ?_
  rintro e w1 ⟨rfl, hw⟩
  subst hw
  go_wp2_with fail
  refine (weight_any _ _ _ _ (by omega) (by omega) hl0 hl1 hx0 hx1).mono ?_
  rintro e w1 ⟨rfl, hw⟩
  subst hw
  have hbl3 := hb3.out.1
  have hbu3 := hb3.out.2
  have hwl3 : -1 ≤ Pl.weight 3 last b := (Pl.wgt_range _ _ _ _ _).1
  have hwu3 : Pl.weight 3 last b ≤ 8 := (Pl.wgt_range _ _ _ _ _).2
  go_wp2_with fail
  clear hbl3 hbu3 hwl3 hwu3
  rw [rounds_succ]
  go_wp2_with fail
  refine (aStep_any _ _ _ _ (by omega) (by omega) ha4.out.1 ha4.out.2 hx0 hx1).mono ?_
  rintro e w1 ⟨rfl, hw⟩
  subst hw
  go_wp2_with fail
  refine (bound_small _ _ hb4.out).mono ?_
  rintro e w1 ⟨rfl, hw⟩
  subst hw
  go_wp2_with fail
  refine (weight_any _ _ _ _ (by omega) (by omega) hl0 hl1 hx0 hx1).mono ?_
  rintro e w1 ⟨rfl, hw⟩
  subst hw
  have hbl4 := hb4.out.1
  have hbu4 := hb4.out.2
  have hwl4 : -1 ≤ Pl.weight 4 last b := (Pl.wgt_range _ _ _ _ _).1
  have hwu4 : Pl.weight 4 last b ≤ 8 := (Pl.wgt_range _ _ _ _ _).2
  go_wp2_with fail
  clear hbl4 hbu4 hwl4 hwu4
  rw [rounds_succ]
  go_wp2_with fail
  refine (aStep_any _ _ _ _ (by omega) (by omega) ha5.out.1 ha5.out.2 hx0 hx1).mono ?_
  rintro e w1 ⟨rfl, hw⟩
  subst hw
  go_wp2_with fail
  refine (bound_small _ _ hb5.out).mono ?_
  rintro e w1 ⟨rfl, hw⟩
  subst hw
  go_wp2_with fail
  refine (weight_any _ _ _ _ (by omega) (by omega) hl0 hl1 hx0 hx1).mono ?_
  rintro e w1 ⟨rfl, hw⟩
  subst hw
  have hbl5 := hb5.out.1
  have hbu5 := hb5.out.2
  have hwl5 : -1 ≤ Pl.weight 5 last b := (Pl.wgt_range _ _ _ _ _).1
  have hwu5 : Pl.weight 5 last b ≤ 8 := (Pl.wgt_range _ _ _ _ _).2
  go_wp2_with fail
  clear hbl5 hbu5 hwl5 hwu5
  rw [rounds_succ]
  go_wp2_with fail
  refine (aStep_any _ _ _ _ (by omega) (by omega) ha6.out.1 ha6.out.2 hx0 hx1).mono ?_
  rintro e w1 ⟨rfl, hw⟩
  subst hw
  go_wp2_with fail
  refine (bound_small _ _ hb6.out).mono ?_
  rintro e w1 ⟨rfl, hw⟩
  subst hw
  go_wp2_with fail
  refine (weight_any _ _ _ _ (by omega) (by omega) hl0 hl1 hx0 hx1).mono ?_
  rintro e w1 ⟨rfl, hw⟩
  subst hw
  have hbl6 := hb6.out.1
  have hbu6 := hb6.out.2
  have hwl6 : -1 ≤ Pl.weight 6 last b := (Pl.wgt_range _ _ _ _ _).1
  have hwu6 : Pl.weight 6 last b ≤ 8 := (Pl.wgt_range _ _ _ _ _).2
  go_wp2_with fail
  clear hbl6 hbu6 hwl6 hwu6
  rw [rounds_succ]
  go_wp2_with fail
  refine bodyPost_ret (v := .agg #[.int .i64 x0, .int .i64 y0, .int .i64 (Pl.aStep 1 a1 b), .int .i64 (b1 + Pl.weight 1 last b), .int .i64 (Pl.aStep 2 a2 b), .int .i64 (b2 + Pl.weight 2 last b), .int .i64 (Pl.aStep 3 a3 b), .int .i64 (b3 + Pl.weight 3 last b), .int .i64 (Pl.aStep 4 a4 b), .int .i64 (b4 + Pl.weight 4 last b), .int .i64 (Pl.aStep 5 a5 b), .int .i64 (b5 + Pl.weight 5 last b), .int .i64 (Pl.aStep 6 a6 b), .int .i64 (b6 + Pl.weight 6 last b)]) (by simp [results, Tryd.results48, go_sem]) rfl ⟨rfl, ?_⟩
  repeat (first | exact Below.refl _ _ | refine Below.alloc ?_ (by simp) _ | refine Below.setCell ?_ (by simp) _)
end Go.Proofs.YtefohnbmifblkaaDoor

/-
  The walk of score.Best: it returns what the plain function best says.
-/
namespace Go.Proofs.YtefohnbmifblkaaDoor
open Go.RowKit

/-- the best among the first j encodings (0: none). -/
def bestTo (sc : Nat → Int) : Nat → Nat
  | 0 => 0
  | j + 1 => if Pl.aEnds ((j + 1 : Nat) : Int) (sc ((j + 1) * 2)) = true ∧ (bestTo sc j = 0 ∨ sc (bestTo sc j * 2 + 1) < sc ((j + 1) * 2 + 1)) then j + 1 else bestTo sc j
theorem bestTo_le (sc : Nat → Int) : ∀ j, bestTo sc j ≤ j
  | 0 => Nat.le_refl _
  | j + 1 => by
    have := bestTo_le sc j
    unfold bestTo
    split <;> omega

set_option maxRecDepth 100000 in
set_option maxHeartbeats 1000000 in
theorem best_any (sc : Nat → Int) (w : World) :
    Calls Tryd.prog 62 #[.agg #[.int .i64 (sc 0), .int .i64 (sc 1), .int .i64 (sc 2), .int .i64 (sc 3), .int .i64 (sc 4), .int .i64 (sc 5), .int .i64 (sc 6), .int .i64 (sc 7), .int .i64 (sc 8), .int .i64 (sc 9), .int .i64 (sc 10), .int .i64 (sc 11), .int .i64 (sc 12), .int .i64 (sc 13)]] w fun e w' => e = .returned (.int .i64 (bestTo sc 6)) ∧ Below w.heap.size w w' := by
  go_enter Tryd.func62, Tryd.ntmps62
  go_wp2_with fail
  have hcell : ∀ k, k < 14 → (w.alloc (.cells #[.int .i64 (sc 0), .int .i64 (sc 1), .int .i64 (sc 2), .int .i64 (sc 3), .int .i64 (sc 4), .int .i64 (sc 5), .int .i64 (sc 6), .int .i64 (sc 7), .int .i64 (sc 8), .int .i64 (sc 9), .int .i64 (sc 10), .int .i64 (sc 11), .int .i64 (sc 12), .int .i64 (sc 13)] 73)).cell? ⟨w.heap.size, k, none⟩ = some (.int .i64 (sc k)) := by
    intro k hk
    rw [World.cell?_alloc_at _ _ _ _ rfl]
    rcases (show k = 0 ∨ k = 1 ∨ k = 2 ∨ k = 3 ∨ k = 4 ∨ k = 5 ∨ k = 6 ∨ k = 7 ∨ k = 8 ∨ k = 9 ∨ k = 10 ∨ k = 11 ∨ k = 12 ∨ k = 13 by omega) with rfl | rfl | rfl | rfl | rfl | rfl | rfl | rfl | rfl | rfl | rfl | rfl | rfl | rfl <;> rfl
  have hb : Below w.heap.size w (w.alloc (.cells #[.int .i64 (sc 0), .int .i64 (sc 1), .int .i64 (sc 2), .int .i64 (sc 3), .int .i64 (sc 4), .int .i64 (sc 5), .int .i64 (sc 6), .int .i64 (sc 7), .int .i64 (sc 8), .int .i64 (sc 9), .int .i64 (sc 10), .int .i64 (sc 11), .int .i64 (sc 12), .int .i64 (sc 13)] 73)) := (Below.refl _ _).alloc (Nat.le_refl _) _
  have HC := Lib.hid hcell
  have HB := Lib.hid hb
  clear hcell hb
  generalize w.alloc _ = w0 at HC HB ⊢
  obtain ⟨g, hg⟩ : ∃ g, w.heap.size = g := ⟨_, rfl⟩
  rw [hg] at HC HB ⊢
  have Hg := Lib.hid hg
  clear hg
  go_loopw [3, 4] (fun bst e wr => Drew w0 wr ∧ ∃ j m : Nat, j ≤ 6 ∧ bst = .int .i64 m ∧ e = .int .i64 ((j + 1 : Nat) : Int) ∧ Hid (bestTo sc j = m)) (fun _ e _ => 8 - (intOf e).toNat)
  case atStart => exact ⟨Drew.refl _, 0, 0, by omega, rfl, rfl, Lib.hid rfl⟩
  case round =>
    obtain ⟨hd, j, m, hj6, rfl, rfl, HBt⟩ := hrel
    obtain ⟨k, hk⟩ : ∃ k, j + 1 = k := ⟨_, rfl⟩
    have hmj : m ≤ j := by rw [← HBt.out]; exact bestTo_le sc j
    have HS := Lib.hid (show bestTo sc k = if Pl.aEnds (k : Int) (sc (k * 2)) = true ∧ (m = 0 ∨ sc (m * 2 + 1) < sc (k * 2 + 1)) then k else m by rw [← hk, bestTo, HBt.out])
    by_cases hlt : j < 6
    · rw [hk]
      have hk6 : k ≤ 6 := by omega
      have hmk : m < k := by omega
      have HK := Lib.hid hk
      clear hk
      have i1 : (k : Int) < 7 := by omega
      have i2 : (m : Int) < 7 := by omega
      have c1 := (hd.cell _).trans (HC.out (k * 2) (by omega))
      have c2 := (hd.cell _).trans (HC.out (k * 2 + 1) (by omega))
      have c3 := (hd.cell _).trans (HC.out (m * 2 + 1) (by omega))
      have HE : ∀ (E : Bool), Pl.aEnds (k : Int) (sc (k * 2)) = E → Hid (∀ W : World, Calls Tryd.prog 79 #[.int .i64 (k : Int), .int .i64 (sc (k * 2))] W fun e w' => e = .returned (.bool E) ∧ W = w') := fun E h => Lib.hid fun W => h ▸ aEnds_any _ _ W
      cases hE : Pl.aEnds (k : Int) (sc (k * 2))
      · replace HE := HE _ hE
        have HN := Lib.hid (show bestTo sc k = m by rw [HS.out, if_neg (by rw [hE]; simp)])
        clear HS hE
        go_wp2_with fail
        go_quiet ((go_at_call 79; exact quiet_left (HE.out _)))
        go_wp2_with fail
        go_roundw
        case rel => exact ⟨hd.drewN _, k, m, by omega, rfl, by go_num, HN⟩
        case measure => simp [intOf]; omega
      · replace HE := HE _ hE
        by_cases hm0 : m = 0
        · have HN := Lib.hid (show bestTo sc k = k by rw [HS.out, if_pos ⟨hE, .inl hm0⟩])
          have hmb : ((m : Int) == 0) = true := beq_iff_eq.2 (by omega)
          clear HS hm0 hE
          go_wp2_with fail
          go_quiet ((go_at_call 79; exact quiet_left (HE.out _)))
          go_wp2_with fail
          go_roundw
          case rel => exact ⟨hd.drewN _, k, k, by omega, rfl, by go_num, HN⟩
          case measure => simp [intOf]; omega
        · have hmb : ((m : Int) == 0) = false := beq_eq_false_iff_ne.2 (by omega)
          by_cases hgt : sc (m * 2 + 1) < sc (k * 2 + 1)
          · have HN := Lib.hid (show bestTo sc k = k by rw [HS.out, if_pos ⟨hE, .inr hgt⟩])
            clear HS hm0 hE
            go_wp2_with fail
            go_quiet ((go_at_call 79; exact quiet_left (HE.out _)))
            go_wp2_with fail
            go_roundw
            case rel => exact ⟨hd.drewN _, k, k, by omega, rfl, by go_num, HN⟩
            case measure => simp [intOf]; omega
          · have HN := Lib.hid (show bestTo sc k = m by rw [HS.out, if_neg (by rintro ⟨_, h | h⟩; exact hm0 h; exact hgt h)])
            have hgf : decide (sc (m * 2 + 1) < sc (k * 2 + 1)) = false := decide_eq_false hgt
            clear HS hm0 hgt hE
            go_wp2_with fail
            go_quiet ((go_at_call 79; exact quiet_left (HE.out _)))
            go_wp2_with fail
            go_roundw
            case rel => exact ⟨hd.drewN _, k, m, by omega, rfl, by go_num, HN⟩
            case measure => simp [intOf]; omega
    · have hj : j = 6 := by omega
      subst hj
      have hf : ¬ (((6 + 1 : Nat) : Int) ≤ 6) := by omega
      clear hk HS
      go_wp2_with fail
      go_ret
      exact ⟨ret_int (by rw [HBt.out]), by rw [Hg.out]; exact HB.out.trans hd.below⟩
end Go.Proofs.YtefohnbmifblkaaDoor

/-
  A detector in memory: what its block and its bytes' block hold; what a call on it leaves alone.
-/
namespace Go.Proofs.YtefohnbmifblkaaDoor
open Go.RowKit

/-- a detector's fields. -/
structure DS where
  hint : Int
  bs : List UInt8
  sc : Nat → Int
  last : Int
  ended : Bool
  acts : Int

def byteVals (l : List UInt8) : List Value := l.map fun c => .int .u8 (c.toNat : Int)
def detCells (d : DS) (v : Value) : Array Value := #[.int .i64 d.hint, v, .int .i64 (d.sc 0), .int .i64 (d.sc 1), .int .i64 (d.sc 2), .int .i64 (d.sc 3), .int .i64 (d.sc 4), .int .i64 (d.sc 5), .int .i64 (d.sc 6), .int .i64 (d.sc 7), .int .i64 (d.sc 8), .int .i64 (d.sc 9), .int .i64 (d.sc 10), .int .i64 (d.sc 11), .int .i64 (d.sc 12), .int .i64 (d.sc 13), .int .i64 d.last, .bool d.ended, .int .i64 d.acts]

/-- block b is a detector with the fields d; its bytes lie in block o (none: there are none yet). -/
structure Det (base : Nat) (w : World) (b : Nat) (o : Option Nat) (d : DS) : Prop where
  low : base ≤ b
  mem : ∃ v, w.heap[b]? = some (.cells (detCells d v) 75 (0, 0)) ∧ w.ownsRow base 5 1 v d.bs.length (byteVals d.bs) ∧ v.ownBlock = o

/-- nothing that was there has changed but block b and block o. -/
structure Keep (w w' : World) (b : Nat) (o : Option Nat) : Prop where
  os : w'.os = w.os
  tape : w'.tape = w.tape
  output : w'.output = w.output
  size : w.heap.size ≤ w'.heap.size
  block : ∀ i, i < w.heap.size → i ≠ b → some i ≠ o → w'.heap[i]? = w.heap[i]?
theorem Keep.refl (w : World) (b : Nat) (o : Option Nat) : Keep w w b o := ⟨rfl, rfl, rfl, Nat.le_refl _, fun _ _ _ _ => rfl⟩
theorem Keep.of_below {w w' : World} {b : Nat} {o : Option Nat} (h : Below w.heap.size w w') : Keep w w' b o := ⟨h.os, h.tape, h.output, h.size, fun i hi _ _ => h.block i hi⟩
/-- the block of the bytes may be a new one. -/
def Moved (w : World) (o o' : Option Nat) : Prop := o' = o ∨ ∃ n, o' = some n ∧ w.heap.size ≤ n
theorem Keep.trans {w w1 w2 : World} {b : Nat} {o o1 : Option Nat} (h : Keep w w1 b o) (hm : Moved w o o1) (k : Keep w1 w2 b o1) : Keep w w2 b o :=
  ⟨k.os.trans h.os, k.tape.trans h.tape, k.output.trans h.output, Nat.le_trans h.size k.size, fun i hi hb ho => by
    refine (k.block i (Nat.lt_of_lt_of_le hi h.size) hb ?_).trans (h.block i hi hb ho)
    rcases hm with rfl | ⟨n, rfl, hn⟩
    · exact ho
    · intro e
      injection e with e
      omega⟩
theorem Moved.trans {w w1 : World} {o o1 o2 : Option Nat} (hs : w.heap.size ≤ w1.heap.size) (h : Moved w o o1) (k : Moved w1 o1 o2) : Moved w o o2 := by
  rcases k with rfl | ⟨n, rfl, hn⟩
  · exact h
  · exact .inr ⟨n, rfl, by omega⟩
theorem Keep.below {w w' : World} {b base : Nat} {o : Option Nat} (h : Keep w w' b o) (hb : base ≤ b) (ho : ∀ n, o = some n → base ≤ n) (hB : base ≤ w.heap.size) : Below base w w' :=
  ⟨h.os, h.tape, h.output, h.size, fun i hi => h.block i (by omega) (by omega) (fun e => by have := ho i e.symm; omega)⟩
theorem Keep.cell {w w' : World} {b : Nat} {o : Option Nat} (h : Keep w w' b o) {p : Addr} (hp : p.block < w.heap.size) (hb : p.block ≠ b) (ho : some p.block ≠ o) : w'.cell? p = w.cell? p :=
  World.cell?_of_block (h.block p.block hp hb ho)

theorem ownBlock_base {w : World} {base : Nat} {e : TypeId} {size n : Nat} {v : Value} {xs : List Value} (h : w.ownsRow base e size v n xs) : ∀ g, v.ownBlock = some g → base ≤ g ∧ g < w.heap.size := by
  intro g hg
  rcases h.2 with ⟨rfl, _⟩ | ⟨g', cap, cur, rfl, hb, hh, _⟩
  · simp [Value.ownBlock] at hg
  · have : g' = g := by simpa [Value.ownBlock] using hg
    subst this
    refine ⟨by assumption, ?_⟩
    rcases Nat.lt_or_ge g' w.heap.size with h1 | h1
    · exact h1
    · rw [Array.getElem?_eq_none h1] at hh
      cases hh

def newDS (h : Int) : DS := { hint := h, bs := [], sc := fun _ => 0, last := -1, ended := false, acts := 0 }

set_option maxHeartbeats 1000000 in
theorem scoreNew_any (w : World) :
    Calls Tryd.prog 49 #[] w fun e w' => e = .returned (.agg #[.int .i64 0, .int .i64 0, .int .i64 0, .int .i64 0, .int .i64 0, .int .i64 0, .int .i64 0, .int .i64 0, .int .i64 0, .int .i64 0, .int .i64 0, .int .i64 0, .int .i64 0, .int .i64 0]) ∧ Below w.heap.size w w' := by
  go_enter Tryd.func49, Tryd.ntmps49
  go_wp2
  refine bodyPost_ret (v := .agg #[.int .i64 0, .int .i64 0, .int .i64 0, .int .i64 0, .int .i64 0, .int .i64 0, .int .i64 0, .int .i64 0, .int .i64 0, .int .i64 0, .int .i64 0, .int .i64 0, .int .i64 0, .int .i64 0]) (by simp [results, Tryd.results49, go_sem]) rfl ⟨rfl, ?_⟩
  repeat (first | exact Below.refl _ _ | refine Below.alloc ?_ (by simp) _ | refine Below.setCell ?_ (by simp) _)

set_option maxHeartbeats 1000000 in
theorem detNew_any (s : ByteArray) (w : World) (hs : s.size ≤ maxLen) :
    Calls Tryd.prog 27 #[.string s] w fun e w' => (∃ b, e = .returned (.pointer (some ⟨b, 0, none⟩)) ∧ w.heap.size ≤ b ∧ Det w.heap.size w' b none (newDS (Pl.find s.data.toList))) ∧ Below w.heap.size w w' := by
  have HS := Lib.hid hs
  clear hs
  go_enter Tryd.func27, Tryd.ntmps27
  go_wp2_with (first
    | (go_at_call 44; refine (find_any _ _ HS.out).mono ?_; rintro e w1 ⟨rfl, hb1⟩)
    | (go_at_call 49; refine (scoreNew_any _).mono ?_; rintro e w2 ⟨rfl, hb2⟩))
  go_ret
  have hb := bthen hb1 hb2
  refine ⟨⟨w2.heap.size, rfl, hb.size, hb.size, _, heap_alloc_new w2 _, ⟨rfl, .inl ⟨rfl, rfl⟩⟩, rfl⟩, hb.alloc hb.size _⟩
end Go.Proofs.YtefohnbmifblkaaDoor
