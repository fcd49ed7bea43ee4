/-
  The walk of strings.IndexAny at the ends of a value, for every text shorter than 2^32 - 15 bytes (its bytes need not be ASCII): the place of the first byte that is among them, or -1; and of sniff.value: it returns what the plain function value says.
-/
import Derived.Test.YtefohnbmifblkabDoorSnC
import Derived.Lib.OthersKept
import Derived.Shelf.Strings.SlTrimAscii
namespace Go.Proofs.YtefohnbmifblkabDoor
open Go.RowKit

/-- What a decoded rune spans: bytes that are all beyond ASCII, if the first is. -/
theorem decode_span (s : ByteArray) (pos : Nat) (h : pos < s.size) (ha : 128 ≤ (s[pos]'h).toNat) :
    pos + (Utf8.decode s pos).2 ≤ s.size ∧ ∀ j b, j < (Utf8.decode s pos).2 → s.data.toList[pos + j]? = some b → 128 ≤ b.toNat := by
  have hn : ¬ (s[pos]'h).toNat < 128 := by omega
  have g0 : s.get! (pos + 0) = s[pos]'h := get_at s pos h
  have hget : ∀ k b, s.data.toList[pos + k]? = some b → s.get! (pos + k) = b := by
    intro k b hb
    have hlt : pos + k < s.size := by simpa using (List.getElem?_eq_some_iff.1 hb).1
    have h2 := get_at s (pos + k) hlt
    have h3 : s.data.toList[pos + k]? = some (s[pos + k]'hlt) := Lib.data_getElem? s (pos + k) hlt
    rw [h3] at hb
    injection hb with hb
    rw [← hb]
    exact h2
  have h1 : ∀ k, (decide (pos + k < s.size) && (s.get! (pos + k)).toNat / 64 == 2) = true → pos + k < s.size ∧ 128 ≤ (s.get! (pos + k)).toNat := by
    intro k hk
    simp at hk
    omega
  have fin : ∀ n, n ≤ 4 → (∀ k, 1 ≤ k → k < n → pos + k < s.size ∧ 128 ≤ (s.get! (pos + k)).toNat) → 1 ≤ n → pos + n ≤ s.size ∧ ∀ j b, j < n → s.data.toList[pos + j]? = some b → 128 ≤ b.toNat := by
    intro n hn4 hk h1n
    refine ⟨?_, fun j b hj hb => ?_⟩
    · rcases Nat.lt_or_ge 1 n with h2 | h2
      · have := (hk (n - 1) (by omega) (by omega)).1
        omega
      · omega
    · rcases Nat.eq_zero_or_pos j with rfl | hj0
      · have := hget 0 b hb
        rw [g0] at this
        rw [← this]
        exact ha
      · have := hget j b hb
        rw [← this]
        exact (hk j (by omega) hj).2
  simp only [Utf8.decode, g0, hn, if_false]
  split
  · rename_i hc
    have c1 := h1 1 (by simp at hc ⊢; exact hc.2)
    split
    · exact fin 2 (by omega) (fun k hk1 hk2 => by
        obtain rfl : k = 1 := (by omega)
        exact c1) (by omega)
    · exact fin 1 (by omega) (fun k hk1 hk2 => by omega) (by omega)
  · split
    · rename_i hc
      have c1 := h1 1 (by simp at hc ⊢; exact hc.1.2)
      have c2 := h1 2 (by simp at hc ⊢; exact hc.2)
      split
      · exact fin 3 (by omega) (fun k hk1 hk2 => by
          rcases (show k = 1 ∨ k = 2 by omega) with rfl | rfl
          · exact c1
          · exact c2) (by omega)
      · exact fin 1 (by omega) (fun k hk1 hk2 => by omega) (by omega)
    · split
      · rename_i hc
        have c1 := h1 1 (by simp at hc ⊢; exact hc.1.1.2)
        have c2 := h1 2 (by simp at hc ⊢; exact hc.1.2)
        have c3 := h1 3 (by simp at hc ⊢; exact hc.2)
        split
        · exact fin 4 (by omega) (fun k hk1 hk2 => by
            rcases (show k = 1 ∨ k = 2 ∨ k = 3 by omega) with rfl | rfl | rfl
            · exact c1
            · exact c2
            · exact c3) (by omega)
        · exact fin 1 (by omega) (fun k hk1 hk2 => by omega) (by omega)
      · exact fin 1 (by omega) (fun k hk1 hk2 => by omega) (by omega)

theorem indexRune_far (r : Nat) (w : World) (h1 : 128 ≤ r) (h2 : r ≤ 2147483647) :
    Calls Tryd.prog 62 #[.string ⟨#[32, 9, 10, 13, 59, 34, 39, 62]⟩, .int .i32 r] w fun e w' => e = .returned (.int .i64 (-1)) ∧ Below w.heap.size w w' := by
  by_cases hr : r = 65533
  · subst hr
    exact indexRune_bad w
  · have hr' : ((r : Int) == 65533) = false := beq_eq_false_iff_ne.2 (by omega)
    cases hv : Lib.validRune (r : Int) with
    | false => exact indexRune_no r w (by omega) (by omega) hr' hv
    | true => exact indexRune_yes r w h1 h2 hr' hv

theorem indexRune_near (x : UInt8) (w : World) (h : x.toNat < 128) :
    Calls Tryd.prog 62 #[.string ⟨#[32, 9, 10, 13, 59, 34, 39, 62]⟩, .int .i32 x.toNat] w fun e w' => e = .returned (.int .i64 (Lib.indexByte Pl.ends x)) ∧ w = w' := by
  refine (Tryd.strings_IndexRune_ascii ⟨#[32, 9, 10, 13, 59, 34, 39, 62]⟩ x.toNat w (by omega) (by omega)).mono ?_
  rintro e w' ⟨rfl, hw⟩
  exact ⟨ret_int (by rw [show ((x.toNat : Int)).toNat.toUInt8 = x by simp]; rfl), hw.symm⟩

theorem noAny_more {s : List UInt8} {i n : Nat} (h : Lib.NoAny s Pl.ends i) (hn : ∀ j b, j < n → s[i + j]? = some b → 128 ≤ b.toNat) : Lib.NoAny s Pl.ends (i + n) := by
  intro j b hj hb
  by_cases hji : j < i
  · exact h j b hji hb
  · have h1 := hn (j - i) b (by omega) (by rw [show i + (j - i) = j by omega]; exact hb)
    cases hc : Pl.ends.contains b with
    | false => rfl
    | true =>
      have : ∀ x ∈ Pl.ends, x.toNat < 128 := by decide
      have := this b (by simpa using hc)
      omega

set_option maxHeartbeats 2000000 in
set_option maxRecDepth 1000000 in
/-- s of at most 8 bytes. -/
theorem indexAny_short (s : ByteArray) (w : World) (h8 : s.size ≤ 8) :
    Calls Tryd.prog 52 #[.string s, .string ⟨#[32, 9, 10, 13, 59, 34, 39, 62]⟩] w fun e w' => e = .returned (.int .i64 (Lib.indexAny s.data.toList Pl.ends)) ∧ Below w.heap.size w w' := by
  have h8z : decide ((8 : Int) < (s.size : Int)) = false := decide_eq_false (by omega)
  go_enter Tryd.func52, Tryd.ntmps52
  go_wp2_with (go_at_call 63; refine (Tryd.strings_shouldUseASCIISet _ _).mono ?_; rintro e w1 ⟨rfl, hw⟩; subst hw; rw [h8z])
  have hit : (w1.iter s 0).heap[w1.heap.size]? = some (.stringIter s 0) := World.iter_heap _ _ _
  have hbi : Below w1.heap.size w1 (w1.iter s 0) := (Below.refl _ _).alloc (Nat.le_refl _) _
  obtain ⟨k, hk⟩ : ∃ k, w1.heap.size = k := ⟨_, rfl⟩
  rw [hk] at hit hbi ⊢
  generalize w1.iter s 0 = w2 at hit hbi ⊢
  go_loopg [9, 10] s.size (fun g _ _ wx => ∃ i : Nat, i + g = s.size ∧ wx.heap[k]? = some (.stringIter s i) ∧ Below k w1 wx ∧ Lib.NoAny s.data.toList Pl.ends i)
  case atStart => exact ⟨0, by omega, hit, hbi, Lib.NoAny.zero _ _⟩
  case round =>
    obtain ⟨i, hig, hit, hbi, hno⟩ := hrel
    have HN := Lib.hid hno
    clear hno
    by_cases hi : i < s.size
    · obtain ⟨x, hx⟩ : ∃ x : UInt8, s[i]'hi = x := ⟨_, rfl⟩
      have hxl : s.data.toList[i]? = some x := by rw [← hx]; exact Lib.data_getElem? s i hi
      by_cases hx128 : x.toNat < 128
      · have hnx := fun ty => Lib.run_next_ascii_at (P := Tryd.prog) wr k s i ty hit hi (by rw [hx]; exact hx128)
        rw [hx] at hnx
        have hit2 := Lib.iterAt_heap wr k s i (i + 1) hit
        have hbi2 := Lib.below_iterAt hbi (Nat.le_refl k) s (i + 1)
        generalize wr.iterAt k s (i + 1) = w3 at hnx hit2 hbi2
        have Hx := Lib.hid hxl
        clear hxl hx
        have hcon := Lib.contains_iff_indexByte Pl.ends x
        cases hin : Pl.ends.contains x
        · rw [hin] at hcon
          have hlt : ¬ ((0 : Int) ≤ Lib.indexByte Pl.ends x) := of_decide_eq_false hcon.symm
          clear hcon
          go_wp2_with (go_at_call 62; refine (indexRune_near _ _ hx128).mono ?_; rintro e w4 ⟨rfl, hw⟩; subst hw)
          go_roundg (s.size - (i + 1))
          case measure => omega
          case rel => exact ⟨i + 1, by omega, hit2, hbi2, HN.out.succ Hx.out hin⟩
        · rw [hin] at hcon
          have hge : (0 : Int) ≤ Lib.indexByte Pl.ends x := of_decide_eq_true hcon.symm
          clear hcon
          go_wp2_with (go_at_call 62; refine (indexRune_near _ _ hx128).mono ?_; rintro e w4 ⟨rfl, hw⟩; subst hw)
          go_ret
          exact ⟨ret_int (by rw [Lib.indexAny_hit HN.out Hx.out hin]), by rw [hk]; exact hbi2⟩
      · obtain ⟨hsp1, hsp2⟩ := decode_span s i hi (by rw [hx]; omega)
        obtain ⟨hd1, hd2⟩ := decode_high s i hi (by rw [hx]; omega)
        have hd3 := decode_le s i
        have hno2 := noAny_more HN.out hsp2
        have hnx := fun ty => Lib.run_next_any_at (P := Tryd.prog) wr k s i ty hit hi
        have hit2 := Lib.iterAt_heap wr k s i (i + (Utf8.decode s i).2) hit
        have hbi2 := Lib.below_iterAt hbi (Nat.le_refl k) s (i + (Utf8.decode s i).2)
        generalize wr.iterAt k s (i + (Utf8.decode s i).2) = w3 at hnx hit2 hbi2
        clear hsp2
        generalize (Utf8.decode s i).1 = r at hnx hd1 hd3
        generalize (Utf8.decode s i).2 = n at hit2 hd2 hsp1 hno2
        have HNO := Lib.hid hno2
        clear hno2 hx hxl
        have hkw : k < w3.heap.size := (Array.getElem?_eq_some_iff.1 hit2).1
        go_wp2_with (go_at_call 62; refine (indexRune_far r _ hd1 hd3).mono ?_; rintro e w4 ⟨rfl, hb4⟩)
        go_roundg (s.size - (i + n))
        case measure => omega
        case rel => exact ⟨i + n, by omega, (hb4.block k hkw).trans hit2, hbi2.trans (hb4.mono (by omega)), HNO.out⟩
    · have hie : i = s.size := by omega
      subst hie
      have hnx := fun ty => Lib.run_next_end_at (P := Tryd.prog) wr k s s.size ty hit (by omega)
      go_wp2
      go_ret
      exact ⟨ret_int (by rw [Lib.indexAny_none (by rw [← Lib.size_eq]; exact HN.out)]), by rw [hk]; exact hbi⟩

/-- strings.IndexAny at the ends of a value. -/
theorem indexAny_ends (s : ByteArray) (w : World) (hs : s.size < 4294967281) :
    Calls Tryd.prog 52 #[.string s, .string ⟨#[32, 9, 10, 13, 59, 34, 39, 62]⟩] w fun e w' => e = .returned (.int .i64 (Lib.indexAny s.data.toList Pl.ends)) ∧ Below w.heap.size w w' := by
  by_cases h8 : s.size ≤ 8
  · exact indexAny_short s w h8
  · refine (Tryd.strings_IndexAny_long (zero_of_info (P := Tryd.prog) (n := 256) (by kernel_rfl)).1 s ⟨#[32, 9, 10, 13, 59, 34, 39, 62]⟩ w (by decide) (by omega) hs (by decide) (ascii_of_all (by decide))).mono fun e w' ⟨h1, h2⟩ => ⟨h1, ?_⟩
    rw [h2]
    exact ((Below.refl _ _).alloc (Nat.le_refl _) _).alloc (by simp) _
/-- .. at one byte. -/
theorem indexAny_byte (s : ByteArray) (c : UInt8) (w : World) (hc : c.toNat < 128) :
    Calls Tryd.prog 52 #[.string s, .string ⟨#[c]⟩] w fun e w' => e = .returned (.int .i64 (Lib.indexAny s.data.toList [c])) ∧ Below w.heap.size w w' :=
  (Tryd.strings_IndexAny_one s ⟨#[c]⟩ w rfl (ascii_of_all (by simp; exact hc))).mono fun e w' ⟨h1, h2⟩ => ⟨h1, h2 ▸ Below.refl _ _⟩
end Go.Proofs.YtefohnbmifblkabDoor
