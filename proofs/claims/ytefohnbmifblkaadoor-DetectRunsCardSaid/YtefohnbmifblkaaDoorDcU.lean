/-
  decode's small functions at every good state.
-/
import Derived.Test.YtefohnbmifblkaaDoorApp
import Derived.Test.YtefohnbmifblkaaDoorDcD
import Derived.Test.YtefohnbmifblkaaDoorDcG
namespace Go.Proofs.YtefohnbmifblkaaDoor
open Go.RowKit
open Pl (St st0 byte dOk)

/-- a good state, by cases. -/
inductive Shape : Int → St → Prop
  | utf0 : Shape 1 st0
  | utf (n cd f t : Int) (hn : n = 1 ∨ n = 2 ∨ n = 3) (h0 : 0 ≤ cd) (h1 : n = 1 → cd < 32768) (h2 : n = 2 → cd < 512) (h3 : n = 3 → cd < 8) (hf : 128 ≤ f) (ht : t ≤ 191) : Shape 1 ⟨n, cd, f, t, [], 0, 0⟩
  | nil (m : Int) (hm : m = 0 ∨ m = 1) : Shape 2 ⟨0, 0, 0, 0, [], 0, m⟩
  | esc (m : Int) (hm : m = 0 ∨ m = 1) : Shape 2 ⟨0, 0, 0, 0, [27], 0, m⟩
  | two (m : Int) (hm : m = 0 ∨ m = 1) : Shape 2 ⟨0, 0, 0, 0, [27, 40], 0, m⟩
  | dol (m : Int) (hm : m = 0 ∨ m = 1) : Shape 2 ⟨0, 0, 0, 0, [27, 36], 0, m⟩
  | lead (l : UInt8) (h0 : 33 ≤ l.toNat) (h1 : l.toNat ≤ 126) : Shape 2 ⟨0, 0, 0, 0, [l], 0, 1⟩
  | twin0 : Shape 3 st0
  | twin1 (l : UInt8) (h0 : 129 ≤ l.toNat) (h1 : l.toNat ≤ 159) : Shape 3 ⟨0, 0, 0, 0, [l], 0, 0⟩
  | latin : Shape 4 st0
  | pairs0 (e h : Int) (he : e = 5 ∨ e = 6) (hh : h = 0 ∨ (55296 ≤ h ∧ h ≤ 56319)) : Shape e ⟨0, 0, 0, 0, [], h, 0⟩
  | pairs1 (e h : Int) (l : UInt8) (he : e = 5 ∨ e = 6) (hh : h = 0 ∨ (55296 ≤ h ∧ h ≤ 56319)) : Shape e ⟨0, 0, 0, 0, [l], h, 0⟩

theorem shape_of (e : Int) (s : St) (h : dOk e s) : Shape e s := by
  obtain ⟨n, cd, f, t, k, hf, m⟩ := s
  unfold dOk at h
  rcases h with ⟨rfl, h⟩ | ⟨rfl, h⟩ | ⟨rfl, h⟩ | ⟨rfl, h⟩ | ⟨he, h⟩
  · obtain ⟨h1, h2, h3, h4, h5⟩ := h
    dsimp only at h1 h2 h3 h4 h5
    subst h1 h2 h3
    rcases h5 with h5 | ⟨h6, h7, h8⟩
    · rw [h5]
      exact .utf0
    · exact .utf n cd f t (by omega) h4 (by omega) (by omega) (by omega) h6 h7
  · obtain ⟨h1, h2, h3, h4, h5, h6, h7⟩ := h
    dsimp only at h1 h2 h3 h4 h5 h6 h7
    subst h1 h2 h3 h4 h5
    rcases h7 with rfl | rfl | rfl | rfl | ⟨rfl, l, rfl, h8, h9⟩
    · exact .nil m h6
    · exact .esc m h6
    · exact .two m h6
    · exact .dol m h6
    · exact .lead l h8 h9
  · obtain ⟨h1, h2, h3, h4, h5, h6, h7⟩ := h
    dsimp only at h1 h2 h3 h4 h5 h6 h7
    subst h1 h2 h3 h4 h5 h6
    rcases h7 with rfl | ⟨l, rfl, h8, h9⟩
    · exact .twin0
    · exact .twin1 l h8 h9
  · rw [h]
    exact .latin
  · obtain ⟨h1, h2, h3, h4, h5, h6, h7⟩ := h
    dsimp only at h1 h2 h3 h4 h5 h6 h7
    subst h1 h2 h3 h4 h5
    rcases h7 with rfl | ⟨l, rfl⟩
    · exact .pairs0 e hf he h6
    · exact .pairs1 e hf l he h6

theorem good_any (e : Int) (s : St) (w : World) (h : dOk e s) :
    Calls Tryd.prog 92 #[.int .i64 e, stV s] w fun e w' => e = .returned (.bool true) ∧ Below w.heap.size w w' := by
  rcases shape_of e s h with _ | ⟨n, cd, f, t, hn, h0, h1, h2, h3, hf, ht⟩ | ⟨m, hm⟩ | ⟨m, hm⟩ | ⟨m, hm⟩ | ⟨m, hm⟩ | ⟨l, h0, h1⟩ | _ | ⟨l, h0, h1⟩ | _ | ⟨_, hh, he, hh2⟩ | ⟨_, hh, l, he, hh2⟩
  · exact good_utf0 w
  · rcases hn with rfl | rfl | rfl
    · exact good_utf1 cd f t h0 (h1 rfl) hf ht w
    · exact good_utf2 cd f t h0 (h2 rfl) hf ht w
    · exact good_utf3 cd f t h0 (h3 rfl) hf ht w
  · rcases hm with rfl | rfl
    · exact good_shift_nil0 w
    · exact good_shift_nil1 w
  · rcases hm with rfl | rfl
    · exact good_shift_esc0 w
    · exact good_shift_esc1 w
  · rcases hm with rfl | rfl
    · exact good_shift_two0 w
    · exact good_shift_two1 w
  · rcases hm with rfl | rfl
    · exact good_shift_dol0 w
    · exact good_shift_dol1 w
  · exact good_shift_lead l h0 h1 w
  · exact good_twin0 w
  · exact good_twin1 l h0 h1 w
  · exact good_latin w
  · rcases he with rfl | rfl <;> rcases hh2 with rfl | ⟨h0, h1⟩
    · exact good_pairs5_nil0 w
    · exact good_pairs5_nil1 hh h0 h1 w
    · exact good_pairs6_nil0 w
    · exact good_pairs6_nil1 hh h0 h1 w
  · rcases he with rfl | rfl <;> rcases hh2 with rfl | ⟨h0, h1⟩
    · exact good_pairs5_one0 l w
    · exact good_pairs5_one1 l hh h0 h1 w
    · exact good_pairs6_one0 l w
    · exact good_pairs6_one1 l hh h0 h1 w

theorem utf_any (s : St) (c : UInt8) (w : World) (h : dOk 1 s) :
    Calls Tryd.prog 109 #[stV s, .int .i64 (c.toNat : Int)] w fun e w' => Ans w (Pl.dUtf s c) e w' := by
  have hs := shape_of 1 s h
  generalize he : (1 : Int) = e at hs
  cases hs with
  | utf0 => exact utf_zero c w
  | utf n cd f t hn h0 h1 h2 h3 hf ht => exact utf_more n cd f t c w hn h0 (by omega)
  | _ => omega
theorem shift_any (s : St) (c : UInt8) (w : World) (h : dOk 2 s) :
    Calls Tryd.prog 110 #[stV s, .int .i64 (c.toNat : Int)] w fun e w' => Ans w (Pl.dShift s c) e w' := by
  have hs := shape_of 2 s h
  generalize he : (2 : Int) = e at hs
  cases hs with
  | nil m hm => rcases hm with rfl | rfl; exact shift_nil0 c w; exact shift_nil1 c w
  | esc m hm => exact shift_esc m c w
  | two m hm => rcases hm with rfl | rfl; exact shift_two0 c w; exact shift_two1 c w
  | dol m hm => rcases hm with rfl | rfl; exact shift_dol0 c w; exact shift_dol1 c w
  | lead l h0 h1 => exact shift_lead l h0 h1 c w
  | _ => omega
theorem twin_any (s : St) (c : UInt8) (w : World) (h : dOk 3 s) :
    Calls Tryd.prog 111 #[stV s, .int .i64 (c.toNat : Int)] w fun e w' => Ans w (Pl.dTwin s c) e w' := by
  have hs := shape_of 3 s h
  generalize he : (3 : Int) = e at hs
  cases hs with
  | twin0 => exact twin_zero c w
  | twin1 l h0 h1 => exact twin_kept l c w h0 h1
  | _ => omega
theorem pairs_any (e : Int) (lo : Bool) (s : St) (c : UInt8) (w : World) (he : e = 5 ∨ e = 6) (h : dOk e s) :
    Calls Tryd.prog 113 #[stV s, .int .i64 (c.toNat : Int), .bool lo] w fun e w' => Ans w (Pl.dPairs lo s c) e w' := by
  have hs := shape_of e s h
  cases hs with
  | pairs0 _ hf he hh => exact pairs_nil lo hf c w
  | pairs1 _ hf l he hh =>
    cases lo
    · rcases hh with rfl | ⟨h0, h1⟩
      · exact pairs_high0 l c w
      · exact pairs_high1 l c hf h0 h1 w
    · rcases hh with rfl | ⟨h0, h1⟩
      · exact pairs_low0 l c w
      · exact pairs_low1 l c hf h0 h1 w
  | _ => omega
theorem latin_zero (s : St) (h : dOk 4 s) : s = st0 := by
  have hs := shape_of 4 s h
  generalize he : (4 : Int) = e at hs
  cases hs with
  | latin => rfl
  | _ => omega
end Go.Proofs.YtefohnbmifblkaaDoor
