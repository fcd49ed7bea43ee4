/-
  The walk of the references' FindLabel: it returns what the plain function find says, for every text, in every world in which the library's one variable holds a number.
-/
import Derived.Test.YtefohnbmifblkaaDoorRfB
import Derived.Lib.Split
namespace Go.Proofs.YtefohnbmifblkaaDoor
open Go.RowKit

/-- the library's variable that its search reads. -/
def Mx (w : World) : Prop := ∃ m, w.cell? ⟨2, 0, none⟩ = some (.int .i64 m)
theorem Mx.below {w w' : World} (h : Mx w) (hb : Below w.heap.size w w') : Mx w' := by
  obtain ⟨m, h⟩ := h
  exact ⟨m, (hb.cell (p := ⟨_, 0, none⟩) (lt_of_cell h)).trans h⟩

def sp : ByteArray := ⟨#[32]⟩
def lab : Nat → ByteArray
  | 0 => ⟨#[117, 116, 102, 45, 56, 32, 117, 116, 102, 56, 32, 117, 110, 105, 99, 111, 100, 101, 45, 49, 45, 49, 45, 117, 116, 102, 45, 56]⟩
  | 1 => ⟨#[115, 104, 105, 102, 116, 32, 105, 115, 111, 45, 50, 48, 50, 50]⟩
  | 2 => ⟨#[116, 119, 105, 110, 32, 120, 45, 116, 119, 105, 110, 32, 109, 115, 95, 116, 119, 105, 110]⟩
  | 3 => ⟨#[108, 97, 116, 105, 110, 32, 108, 97, 116, 105, 110, 49, 32, 97, 115, 99, 105, 105, 32, 117, 115, 45, 97, 115, 99, 105, 105, 32, 119, 105, 110, 100, 111, 119, 115, 45, 49, 50, 53, 50]⟩
  | 4 => ⟨#[117, 116, 102, 45, 49, 54, 32, 117, 116, 102, 45, 49, 54, 108, 101]⟩
  | _ => ⟨#[117, 116, 102, 45, 49, 54, 98, 101]⟩
def wordsOf (i : Nat) : List ByteArray := Lib.splitB sp 0 (Lib.countB (lab i) sp) (lab i)
def namesFrom : Nat → List (List UInt8 × Int)
  | 0 => []
  | n + 1 => (wordsOf (5 - n)).map (fun b => (b.data.toList, ((5 - n : Nat) : Int) + 1)) ++ namesFrom n
theorem names_all : Pl.names = namesFrom 6 := by decide +kernel
theorem words_len : ∀ i, i < 6 → (wordsOf i).length = Lib.countB (lab i) sp + 1 := by decide +kernel
theorem words_few : ∀ i, i < 6 → Lib.countB (lab i) sp + 1 ≤ 8 := by decide +kernel
theorem lab_small : ∀ i, i < 6 → (lab i).size ≤ 100 := by decide +kernel

/-- block g holds just these texts, from its head on. -/
def SRow (w : World) (g : Nat) (f : Nat → ByteArray) (n : Nat) : Prop := ∀ i, i < n → w.cell? ⟨g, i, none⟩ = some (.string (f i))
theorem SRow.below {w w' : World} {g n : Nat} {f : Nat → ByteArray} (h : SRow w g f n) (hb : Below w.heap.size w w') : SRow w' g f n :=
  fun i hi => (hb.cell (p := ⟨g, i, none⟩) (lt_of_cell (h i hi))).trans (h i hi)

def nf (k j : Nat) : List (List UInt8 × Int) := ((wordsOf k).drop j).map (fun b => (b.data.toList, (k : Int) + 1)) ++ namesFrom (5 - k)
theorem nf_start (k : Nat) (hk : k < 6) : namesFrom (6 - k) = nf k 0 := by
  obtain ⟨n, hn⟩ : ∃ n, 6 - k = n + 1 := ⟨5 - k, by omega⟩
  rw [hn, namesFrom, nf, List.drop_zero, show 5 - n = k by omega, show 5 - k = n by omega]
theorem nf_end (k : Nat) (hk : k < 6) : nf k (wordsOf k).length = namesFrom (6 - (k + 1)) := by
  rw [nf, List.drop_length, List.map_nil, List.nil_append, show 6 - (k + 1) = 5 - k by omega]
theorem nf_step (k j : Nat) (hj : j < (wordsOf k).length) : nf k j = (((wordsOf k)[j]).data.toList, (k : Int) + 1) :: nf k (j + 1) := by
  rw [nf, List.drop_eq_getElem_cons hj, List.map_cons, List.cons_append]
  rfl
theorem look_hit (t : List UInt8) (n : Int) (r : List (List UInt8 × Int)) : Pl.look t ((t, n) :: r) = n := by
  unfold Pl.look
  rw [if_pos rfl]
theorem look_miss {t u : List UInt8} {n : Int} {r : List (List UInt8 × Int)} (h : t ≠ u) : Pl.look t ((u, n) :: r) = Pl.look t r := by
  rw [Pl.look, if_neg h]

theorem split_any (k : Nat) (hk : k < 6) (w : World) (hm : Mx w) :
    Calls Tryd.prog 50 #[.string (lab k), .string ⟨#[32]⟩] w fun e w' => e = .returned (.slice (some ⟨w.heap.size, 0, none⟩) (wordsOf k).length (wordsOf k).length) ∧ Below w.heap.size w w' ∧ SRow w' w.heap.size (fun j => (wordsOf k).getD j ByteArray.empty) (wordsOf k).length := by
  obtain ⟨m, hm⟩ := hm
  refine (Tryd.strings_Split (lab k) ⟨#[32]⟩ m w (by have := lab_small k hk; omega) hm (by decide)).mono fun e w' ⟨h1, h2⟩ => ?_
  subst h2
  refine ⟨by rw [words_len k hk]; exact h1, (Below.refl _ _).alloc (Nat.le_refl _) _, fun j hj => ?_⟩
  rw [World.cell?_alloc_at _ _ _ _ rfl]
  show (((wordsOf k).map Value.string).toArray)[j]? = _
  rw [List.getElem?_toArray, List.getElem?_map, List.getElem?_eq_getElem hj]
  show _ = some (Value.string (((wordsOf k)[j]?).getD ByteArray.empty))
  rw [List.getElem?_eq_getElem hj]
  rfl

set_option maxRecDepth 100000 in
set_option maxHeartbeats 4000000 in
theorem refFind_any (s : ByteArray) (w : World) (hs : s.size ≤ maxLen) (hmx : Mx w) :
    Calls Tryd.prog 29 #[.string s] w fun e w' => e = .returned (.int .i64 (Pl.find s.data.toList)) ∧ Below w.heap.size w w' := by
  have hs' := hs
  unfold maxLen at hs'
  have HMX := Lib.hid hmx
  clear hmx
  by_cases h40 : 40 < s.size
  · have HF := Lib.hid (show Pl.find s.data.toList = 0 by unfold Pl.find; rw [if_pos (by simpa using h40)])
    rw [HF.out]
    go_enter Tryd.func29, Tryd.ntmps29
    go_wp2
    go_ret
    exact ⟨rfl, Below.refl _ _⟩
  · obtain ⟨A, hA⟩ : ∃ A, Pl.find s.data.toList = A := ⟨_, rfl⟩
    have HA := Lib.hid (show Pl.look (Pl.trim s.data.toList) (namesFrom 6) = A by rw [← names_all, ← hA]; unfold Pl.find; rw [if_neg (by simpa using h40)])
    rw [hA]
    have H40 : s.size ≤ 40 := by omega
    clear h40 hA
    obtain ⟨t, ht⟩ : ∃ t, Pl.trim s.data.toList = t := ⟨_, rfl⟩
    have HT := Lib.hid ht
    rw [ht] at HA
    clear ht
    go_enter Tryd.func29, Tryd.ntmps29
    go_wp2
    have hrow : SRow (w.alloc (.cells #[.string (lab 0), .string (lab 1), .string (lab 2), .string (lab 3), .string (lab 4), .string (lab 5)] 9)) w.heap.size lab 6 := by
      intro i hi
      rw [World.cell?_alloc_at _ _ _ _ rfl]
      rcases (show i = 0 ∨ i = 1 ∨ i = 2 ∨ i = 3 ∨ i = 4 ∨ i = 5 by omega) with rfl | rfl | rfl | rfl | rfl | rfl <;> rfl
    have hb0 : Below w.heap.size w (w.alloc (.cells #[.string (lab 0), .string (lab 1), .string (lab 2), .string (lab 3), .string (lab 4), .string (lab 5)] 9)) := (Below.refl _ _).alloc (Nat.le_refl _) _
    simp only [lab] at hrow hb0
    have HB0 := Lib.hid hb0
    have HR0 := Lib.hid hrow
    clear hb0 hrow
    generalize w.alloc _ = w0 at HB0 HR0 ⊢
    have HM0 := Lib.hid (HMX.out.below HB0.out)
    obtain ⟨g, hg⟩ : ∃ g, w.heap.size = g := ⟨_, rfl⟩
    rw [hg] at HB0 HR0 ⊢
    have Hg := Lib.hid hg
    clear hg
    go_loopw [12] (fun i wr => Below g w wr ∧ Hid (Mx wr) ∧ Hid (SRow wr g lab 6) ∧ ∃ k : Nat, k ≤ 6 ∧ i = .int .i64 k ∧ Hid (Pl.look t (namesFrom (6 - k)) = A)) (fun i _ => 6 - (intOf i).toNat)
    case atStart => exact ⟨HB0.out, HM0, HR0, 0, by omega, rfl, HA⟩
    case round =>
      obtain ⟨hb, HM, HR, k, hk, rfl, HK⟩ := hrel
      clear HB0 HR0 HM0 HA
      by_cases hlt : k < 6
      · have hcell := HR.out k hlt
        have hl8 := words_few k hlt
        have hwl := words_len k hlt
        rw [← hwl] at hl8
        clear hwl
        rw [nf_start k hlt] at HK
        go_wp2_with (go_at_call 50; refine (split_any k hlt _ HM.out).mono ?_; rintro e w1 ⟨rfl, hb1, hr1⟩)
        have hgs : g < wr.heap.size := lt_of_cell (HR.out k hlt)
        have HB1 := Lib.hid (hb.trans (hb1.mono (Nat.le_of_lt hgs)))
        have HM1 := Lib.hid (HM.out.below hb1)
        have HR1 := Lib.hid (HR.out.below hb1)
        have HW1 := Lib.hid hr1
        clear hb1 hr1 hcell hb
        clear HM HR
        obtain ⟨g1, hg1⟩ : ∃ g1, wr.heap.size = g1 := ⟨_, rfl⟩
        rw [hg1] at HW1 ⊢
        clear hg1 hgs
        obtain ⟨wo, hwo⟩ : ∃ wo, wo = wr := ⟨_, rfl⟩
        rw [← hwo] at *
        clear hwo
        obtain ⟨n, hn⟩ : ∃ n, (wordsOf k).length = n := ⟨_, rfl⟩
        rw [hn] at hl8 HW1 ⊢
        have Hn := Lib.hid hn
        clear hn
        go_loopw [20] (fun i wi => Hid (Below g w wi) ∧ Hid (Mx wi) ∧ Hid (SRow wi g lab 6) ∧ Hid (SRow wi g1 (fun j => (wordsOf k).getD j ByteArray.empty) n) ∧ ∃ j : Nat, j ≤ n ∧ i = .int .i64 j ∧ Hid (Pl.look t (nf k j) = A)) (fun i _ => n - (intOf i).toNat)
        case atStart => exact ⟨HB1, HM1, HR1, HW1, 0, by omega, rfl, HK⟩
        case round =>
          obtain ⟨HB, HM, HR, HW, j, hj, rfl, HL⟩ := hrel
          clear HB1 HM1 HR1 HW1 HK
          by_cases hjn : j < n
          · have hcell := HW.out j hjn
            obtain ⟨u, hu⟩ : ∃ u, (wordsOf k).getD j ByteArray.empty = u := ⟨_, rfl⟩
            simp only [hu] at hcell
            have HS := Lib.hid (show nf k j = (u.data.toList, (k : Int) + 1) :: nf k (j + 1) by
              have h1 : j < (wordsOf k).length := by rw [Hn.out]; exact hjn
              rw [nf_step k j h1, ← hu]
              show _ = ((((wordsOf k)[j]?).getD ByteArray.empty).data.toList, _) :: _
              rw [List.getElem?_eq_getElem h1]
              rfl)
            clear hu
            by_cases htu : t = u.data.toList
            · have hbt : (u.toList == t) = true := by rw [Lib.toList_data, htu]; exact beq_self_eq_true _
              have HA := Lib.hid (show (k : Int) + 1 = A by rw [← HL.out, HS.out, ← htu, look_hit])
              clear htu
              go_wp2_with (go_at_call 51; refine (trimmed_any _ _ H40).mono ?_; rintro e w2 ⟨rfl, hb2⟩; rw [HT.out])
              go_ret
              exact ⟨ret_int HA.out, by rw [Hg.out]; exact HB.out.trans (hb2.mono (by have h1 := HB.out.size; have h2 := Hg.out; omega))⟩
            · have hbt : (u.toList == t) = false := by rw [Lib.toList_data]; exact beq_eq_false_iff_ne.2 fun e => htu e.symm
              have HA := Lib.hid (show Pl.look t (nf k (j + 1)) = A by rw [← HL.out, HS.out, look_miss htu])
              clear htu
              go_wp2_with (go_at_call 51; refine (trimmed_any _ _ H40).mono ?_; rintro e w2 ⟨rfl, hb2⟩; rw [HT.out])
              go_roundw
              case rel => exact ⟨Lib.hid (HB.out.trans (hb2.mono (by have h1 := HB.out.size; have h2 := Hg.out; omega))), Lib.hid (HM.out.below hb2), Lib.hid (HR.out.below hb2), Lib.hid (HW.out.below hb2), j + 1, by omega, by go_num, HA⟩
              case measure => simp [intOf]; omega
          · have hjn' : j = n := by omega
            subst hjn'
            have HA := Lib.hid (show Pl.look t (namesFrom (6 - (k + 1))) = A by rw [← HL.out, ← nf_end k hlt, Hn.out])
            go_wp2
            go_roundw
            case rel => exact ⟨HB.out, HM, HR, k + 1, by omega, by go_num, HA⟩
            case measure => simp [intOf]; omega
      · have hk6 : k = 6 := by omega
        subst hk6
        have HZ := Lib.hid (show (0 : Int) = A from HK.out)
        go_wp2
        go_ret
        exact ⟨ret_int HZ.out, by rw [Hg.out]; exact hb⟩
end Go.Proofs.YtefohnbmifblkaaDoor
