/-
  The walk of strings.IndexAny at the ends of a value, for every text shorter than 2^32 - 15 bytes (its bytes need not be ASCII), and of sniff.value: it returns what the plain function value says.
-/
import Derived.Test.YtefohnbmifblkaaDoorPlA
import Derived.Test.YtefohnbmifblkaaDoorMem
import Derived.Test.YtefohnbmifblkaaDoorRows
import Derived.Test.YtefohnbmifblkaaDoorShelf
import Derived.Laws.RangeAny
import Derived.Deep.LoopGhost
import Derived.Lib.OthersKept
import Derived.Shelf.Strings.SlTrimAscii
namespace Go.Proofs.YtefohnbmifblkaaDoor
open Go.RowKit

theorem encode_last (r : Nat) (h : 128 ≤ r) : ∃ (n : Nat) (hn : n < (Utf8.encode (r : Int)).size), 1 ≤ n ∧ n ≤ 3 ∧ (Utf8.encode (r : Int)).size = n + 1 ∧ 128 ≤ ((Utf8.encode (r : Int))[n]).toNat := by
  have key : ∀ c : Nat, 128 ≤ c → ∀ b : ByteArray,
      b = (if c < 0x80 then ⟨#[UInt8.ofNat c]⟩ else if c < 0x800 then ⟨#[UInt8.ofNat (0xC0 + c / 64), UInt8.ofNat (0x80 + c % 64)]⟩ else if c < 0x10000 then ⟨#[UInt8.ofNat (0xE0 + c / 4096), UInt8.ofNat (0x80 + c / 64 % 64), UInt8.ofNat (0x80 + c % 64)]⟩ else ⟨#[UInt8.ofNat (0xF0 + c / 262144), UInt8.ofNat (0x80 + c / 4096 % 64), UInt8.ofNat (0x80 + c / 64 % 64), UInt8.ofNat (0x80 + c % 64)]⟩) →
      ∃ (n : Nat) (hn : n < b.size), 1 ≤ n ∧ n ≤ 3 ∧ b.size = n + 1 ∧ 128 ≤ (b[n]).toNat := by
    intro c hc b hb
    have hl : (UInt8.ofNat (0x80 + c % 64)).toNat = 128 + c % 64 := by
      rw [UInt8.toNat_ofNat']
      omega
    rw [if_neg (by omega)] at hb
    split at hb
    · subst hb
      exact ⟨1, by show 1 < 2; omega, by omega, by omega, rfl, by show 128 ≤ (UInt8.ofNat (0x80 + c % 64)).toNat; omega⟩
    · split at hb
      · subst hb
        exact ⟨2, by show 2 < 3; omega, by omega, by omega, rfl, by show 128 ≤ (UInt8.ofNat (0x80 + c % 64)).toNat; omega⟩
      · subst hb
        exact ⟨3, by show 3 < 4; omega, by omega, by omega, rfl, by show 128 ≤ (UInt8.ofNat (0x80 + c % 64)).toNat; omega⟩
  refine key (if Utf8.valid (r : Int) = true then (r : Int).toNat else Utf8.runeError) ?_ _ rfl
  split
  · omega
  · decide

theorem indexByte_far (c : UInt8) (hc : 128 ≤ c.toNat) : ∀ l : List UInt8, (∀ b ∈ l, b.toNat < 128) → Lib.indexByte l c = -1
  | [], _ => rfl
  | b :: l, h => by
    have hb : b ≠ c := fun e => by
      have := h b (by simp)
      rw [e] at this
      omega
    have ih := indexByte_far c hc l fun x hx => h x (by simp [hx])
    unfold Lib.indexByte
    simp [hb, ih]

set_option maxHeartbeats 1000000 in
set_option maxRecDepth 1000000 in
theorem indexRune_bad (w : World) :
    Calls Tryd.prog 73 #[.string ⟨#[32, 9, 10, 13, 59, 34, 39, 62]⟩, .int .i32 65533] w fun e w' => e = .returned (.int .i64 (-1)) ∧ Below w.heap.size w w' := by
  go_enter Tryd.func73, Tryd.ntmps73
  go_wp2
  obtain ⟨S, hS⟩ : ∃ S : ByteArray, (⟨#[32, 9, 10, 13, 59, 34, 39, 62]⟩ : ByteArray) = S := ⟨_, rfl⟩
  rw [hS]
  have HS := Lib.hid hS
  clear hS
  go_loopg [5, 6] 8 (fun g _ _ wx => ∃ i : Nat, i + g = 8 ∧ wx = w.iter S i)
  case atStart => exact ⟨0, by omega, rfl⟩
  case round =>
    obtain ⟨i, hig, rfl⟩ := hrel
    cases gk with
    | zero =>
      obtain rfl : i = 8 := by omega
      have hnx := fun ty => run_next_end (P := Tryd.prog) w S 8 ty (by rw [← HS.out]; decide)
      go_wp2
      go_ret
      exact ⟨rfl, (Below.refl _ _).alloc (Nat.le_refl _) _⟩
    | succ g =>
      have hi : i < S.size := by rw [← HS.out]; show i < 8; omega
      have hx : (S[i]'hi).toNat < 128 := by
        have : ∀ j (hj : j < 8), ((ByteArray.mk #[32, 9, 10, 13, 59, 34, 39, 62])[j]'hj).toNat < 128 := by decide
        have h2 := this i (by omega)
        have h3 := HS.out
        subst h3
        exact h2
      have hnx := fun ty => run_next_ascii (P := Tryd.prog) w S i ty hi hx
      have hne : (((S[i]'hi).toNat : Int) == 65533) = false := beq_eq_false_iff_ne.2 (by omega)
      go_wp2
      go_roundg g
      case measure => omega
      case rel => exact ⟨i + 1, by omega, rfl⟩
set_option maxHeartbeats 1000000 in
set_option maxRecDepth 1000000 in
theorem indexRune_no (r : Int) (w : World) (h1 : 128 ≤ r) (h2 : r ≤ 2147483647) (hr : (r == 65533) = false) (hv : Lib.validRune r = false) :
    Calls Tryd.prog 73 #[.string ⟨#[32, 9, 10, 13, 59, 34, 39, 62]⟩, .int .i32 r] w fun e w' => e = .returned (.int .i64 (-1)) ∧ Below w.heap.size w w' := by
  go_enter Tryd.func73, Tryd.ntmps73
  go_wp2_with (go_at_call 96; refine (Tryd.utf8_ValidRune _ _).mono ?_; rintro e w1 ⟨rfl, rfl⟩)
  go_ret
  exact ⟨rfl, Below.refl _ _⟩
theorem conv_rune {P : Program} {src dst : TypeId} (hs : P.underlying src = some (.int .i32)) (hd : P.underlying dst = some .string) (r : Int) (w : World) :
    (convert src dst (.int .i32 r)).run P w = .ok (.string (Utf8.encode r)) w := by
  simp [convert, run_underlying hs, run_underlying hd, Conv.intToString]

theorem far_any (s : ByteArray) (c : UInt8) (hc : 128 ≤ c.toNat) (w : World) (hs : s.data.toList.all (fun b => decide (b.toNat < 128)) = true) :
    Calls Tryd.prog 46 #[.string s, .int .u8 c.toNat] w fun e w' => e = .returned (.int .i64 (-1)) ∧ w' = w := by
  refine (Tryd.strings_IndexByte s c.toNat w).mono ?_
  rintro e w' ⟨rfl, hw⟩
  refine ⟨ret_int ?_, hw⟩
  rw [show ((c.toNat : Int)).toNat.toUInt8 = c by simp]
  exact indexByte_far c hc _ fun b hb => of_decide_eq_true (List.all_eq_true.1 hs b hb)

set_option maxHeartbeats 1000000 in
set_option maxRecDepth 1000000 in
theorem indexRune_yes (r : Nat) (w : World) (h1 : 128 ≤ r) (h2 : r ≤ 2147483647) (hr : ((r : Int) == 65533) = false) (hv : Lib.validRune (r : Int) = true) :
    Calls Tryd.prog 73 #[.string ⟨#[32, 9, 10, 13, 59, 34, 39, 62]⟩, .int .i32 r] w fun e w' => e = .returned (.int .i64 (-1)) ∧ Below w.heap.size w w' := by
  have HE := Lib.hid (encode_last r h1)
  have HV := Lib.hid hv
  clear hv
  go_enter Tryd.func73, Tryd.ntmps73
  go_wp2_with fail
  refine (Tryd.utf8_ValidRune _ _).mono ?_
  rintro e w1 ⟨rfl, hw⟩
  subst hw
  rw [HV.out]
  go_wp2_with fail
  go_step3
  go_wp2_with fail
  obtain ⟨E, hE⟩ : ∃ E, Utf8.encode (r : Int) = E := ⟨_, rfl⟩
  have HE2 : ∃ (n : Nat) (hn : n < E.size), 1 ≤ n ∧ n ≤ 3 ∧ E.size = n + 1 ∧ 128 ≤ (E[n]).toNat := by
    subst hE
    exact HE.out
  rw [hE]
  clear hE HE
  obtain ⟨n, hn, n1, n3, hsz, hlast⟩ := HE2
  obtain ⟨c, hc⟩ : ∃ c, E[n] = c := ⟨_, rfl⟩
  rw [hc] at hlast
  have hsz1 : (n : Int) < (E.size : Int) := by omega
  have HZ := Lib.hid hsz
  clear hsz
  obtain rfl | rfl | rfl : n = 1 ∨ n = 2 ∨ n = 3 := by omega
  · have hw64 : wrap64 ((E.size : Int) - 1) = 1 := by rw [HZ.out]; unfold wrap64; omega
    rw [hw64]
    clear hw64
    have hneq : (((ByteArray.mk #[32, 9, 10, 13, 59, 34, 39, 62])[1].toNat : Int) != (c.toNat : Int)) = true := by rw [bne_iff_ne]; show (9 : Int) ≠ _; omega
    refine wp_loop_rounds 1 ?_
    rw [rounds_succ]
    go_wp2_with fail
    go_step3
    go_wp2_with fail
    go_quiet (fail)
    have HD : Drew w1 (w1.drewN nq) := ⟨_, rfl⟩
    generalize w1.drewN nq = w2 at HD ⊢
    go_wp2_with fail
    go_quiet ((go_at_call 46; exact Calls.quiet_of_same (far_any _ c hlast _ (by decide))))
    go_wp2_with fail
    rw [Exit.noGoto_ret]
    go_wp2_with fail
    rw [Exit.noGoto_ret]
    go_wp2_with fail
    go_ret
    exact ⟨rfl, (HD.trans ⟨_, rfl⟩).below⟩
  
  · have hw64 : wrap64 ((E.size : Int) - 1) = 2 := by rw [HZ.out]; unfold wrap64; omega
    rw [hw64]
    clear hw64
    have hneq : (((ByteArray.mk #[32, 9, 10, 13, 59, 34, 39, 62])[2].toNat : Int) != (c.toNat : Int)) = true := by rw [bne_iff_ne]; show (10 : Int) ≠ _; omega
    refine wp_loop_rounds 1 ?_
    rw [rounds_succ]
    go_wp2_with fail
    go_step3
    go_wp2_with fail
    go_quiet (fail)
    have HD : Drew w1 (w1.drewN nq) := ⟨_, rfl⟩
    generalize w1.drewN nq = w2 at HD ⊢
    go_wp2_with fail
    go_quiet ((go_at_call 46; exact Calls.quiet_of_same (far_any _ c hlast _ (by decide))))
    go_wp2_with fail
    rw [Exit.noGoto_ret]
    go_wp2_with fail
    rw [Exit.noGoto_ret]
    go_wp2_with fail
    go_ret
    exact ⟨rfl, (HD.trans ⟨_, rfl⟩).below⟩
  
  · have hw64 : wrap64 ((E.size : Int) - 1) = 3 := by rw [HZ.out]; unfold wrap64; omega
    rw [hw64]
    clear hw64
    have hneq : (((ByteArray.mk #[32, 9, 10, 13, 59, 34, 39, 62])[3].toNat : Int) != (c.toNat : Int)) = true := by rw [bne_iff_ne]; show (13 : Int) ≠ _; omega
    refine wp_loop_rounds 1 ?_
    rw [rounds_succ]
    go_wp2_with fail
    go_step3
    go_wp2_with fail
    go_quiet (fail)
    have HD : Drew w1 (w1.drewN nq) := ⟨_, rfl⟩
    generalize w1.drewN nq = w2 at HD ⊢
    go_wp2_with fail
    go_quiet ((go_at_call 46; exact Calls.quiet_of_same (far_any _ c hlast _ (by decide))))
    go_wp2_with fail
    rw [Exit.noGoto_ret]
    go_wp2_with fail
    rw [Exit.noGoto_ret]
    go_wp2_with fail
    go_ret
    exact ⟨rfl, (HD.trans ⟨_, rfl⟩).below⟩
end Go.Proofs.YtefohnbmifblkaaDoor

/-
  The walk of strings.IndexAny at the ends of a value, for every text shorter than 2^32 - 15 bytes (its bytes need not be ASCII): the place of the first byte that is among them, or -1; and of sniff.value: it returns what the plain function value says.
-/
namespace Go.Proofs.YtefohnbmifblkaaDoor
open Go.RowKit

/-- What a decoded rune spans: bytes that are all beyond ASCII, if the first is. -/
theorem decode_span (s : ByteArray) (pos : Nat) (h : pos < s.size) (ha : 128 ≤ (s[pos]'h).toNat) :
    pos + (Utf8.decode s pos).2 ≤ s.size ∧ ∀ j b, j < (Utf8.decode s pos).2 → s.data.toList[pos + j]? = some b → 128 ≤ b.toNat := by
  have hn : ¬ (s[pos]'h).toNat < 128 := by omega
  have g0 : s.get! (pos + 0) = s[pos]'h := get_at s pos h
  have hget : ∀ k b, s.data.toList[pos + k]? = some b → s.get! (pos + k) = b := by
    intro k b hb
    have hlt : pos + k < s.size := by simpa using (List.getElem?_eq_some_iff.1 hb).1
    have h2 := get_at s (pos + k) hlt
    have h3 : s.data.toList[pos + k]? = some (s[pos + k]'hlt) := Lib.data_getElem? s (pos + k) hlt
    rw [h3] at hb
    injection hb with hb
    rw [← hb]
    exact h2
  have h1 : ∀ k, (decide (pos + k < s.size) && (s.get! (pos + k)).toNat / 64 == 2) = true → pos + k < s.size ∧ 128 ≤ (s.get! (pos + k)).toNat := by
    intro k hk
    simp at hk
    omega
  have fin : ∀ n, n ≤ 4 → (∀ k, 1 ≤ k → k < n → pos + k < s.size ∧ 128 ≤ (s.get! (pos + k)).toNat) → 1 ≤ n → pos + n ≤ s.size ∧ ∀ j b, j < n → s.data.toList[pos + j]? = some b → 128 ≤ b.toNat := by
    intro n hn4 hk h1n
    refine ⟨?_, fun j b hj hb => ?_⟩
    · rcases Nat.lt_or_ge 1 n with h2 | h2
      · have := (hk (n - 1) (by omega) (by omega)).1
        omega
      · omega
    · rcases Nat.eq_zero_or_pos j with rfl | hj0
      · have := hget 0 b hb
        rw [g0] at this
        rw [← this]
        exact ha
      · have := hget j b hb
        rw [← this]
        exact (hk j (by omega) hj).2
  simp only [Utf8.decode, g0, hn, if_false]
  split
  · rename_i hc
    have c1 := h1 1 (by simp at hc ⊢; exact hc.2)
    split
    · exact fin 2 (by omega) (fun k hk1 hk2 => by
        obtain rfl : k = 1 := (by omega)
        exact c1) (by omega)
    · exact fin 1 (by omega) (fun k hk1 hk2 => by omega) (by omega)
  · split
    · rename_i hc
      have c1 := h1 1 (by simp at hc ⊢; exact hc.1.2)
      have c2 := h1 2 (by simp at hc ⊢; exact hc.2)
      split
      · exact fin 3 (by omega) (fun k hk1 hk2 => by
          rcases (show k = 1 ∨ k = 2 by omega) with rfl | rfl
          · exact c1
          · exact c2) (by omega)
      · exact fin 1 (by omega) (fun k hk1 hk2 => by omega) (by omega)
    · split
      · rename_i hc
        have c1 := h1 1 (by simp at hc ⊢; exact hc.1.1.2)
        have c2 := h1 2 (by simp at hc ⊢; exact hc.1.2)
        have c3 := h1 3 (by simp at hc ⊢; exact hc.2)
        split
        · exact fin 4 (by omega) (fun k hk1 hk2 => by
            rcases (show k = 1 ∨ k = 2 ∨ k = 3 by omega) with rfl | rfl | rfl
            · exact c1
            · exact c2
            · exact c3) (by omega)
        · exact fin 1 (by omega) (fun k hk1 hk2 => by omega) (by omega)
      · exact fin 1 (by omega) (fun k hk1 hk2 => by omega) (by omega)

theorem indexRune_far (r : Nat) (w : World) (h1 : 128 ≤ r) (h2 : r ≤ 2147483647) :
    Calls Tryd.prog 73 #[.string ⟨#[32, 9, 10, 13, 59, 34, 39, 62]⟩, .int .i32 r] w fun e w' => e = .returned (.int .i64 (-1)) ∧ Below w.heap.size w w' := by
  by_cases hr : r = 65533
  · subst hr
    exact indexRune_bad w
  · have hr' : ((r : Int) == 65533) = false := beq_eq_false_iff_ne.2 (by omega)
    cases hv : Lib.validRune (r : Int) with
    | false => exact indexRune_no r w (by omega) (by omega) hr' hv
    | true => exact indexRune_yes r w h1 h2 hr' hv

theorem indexRune_near (x : UInt8) (w : World) (h : x.toNat < 128) :
    Calls Tryd.prog 73 #[.string ⟨#[32, 9, 10, 13, 59, 34, 39, 62]⟩, .int .i32 x.toNat] w fun e w' => e = .returned (.int .i64 (Lib.indexByte Pl.ends x)) ∧ w = w' := by
  refine (Tryd.strings_IndexRune_ascii ⟨#[32, 9, 10, 13, 59, 34, 39, 62]⟩ x.toNat w (by omega) (by omega)).mono ?_
  rintro e w' ⟨rfl, hw⟩
  exact ⟨ret_int (by rw [show ((x.toNat : Int)).toNat.toUInt8 = x by simp]; rfl), hw.symm⟩

theorem noAny_more {s : List UInt8} {i n : Nat} (h : Lib.NoAny s Pl.ends i) (hn : ∀ j b, j < n → s[i + j]? = some b → 128 ≤ b.toNat) : Lib.NoAny s Pl.ends (i + n) := by
  intro j b hj hb
  by_cases hji : j < i
  · exact h j b hji hb
  · have h1 := hn (j - i) b (by omega) (by rw [show i + (j - i) = j by omega]; exact hb)
    cases hc : Pl.ends.contains b with
    | false => rfl
    | true =>
      have : ∀ x ∈ Pl.ends, x.toNat < 128 := by decide
      have := this b (by simpa using hc)
      omega

set_option maxHeartbeats 2000000 in
set_option maxRecDepth 1000000 in
/-- s of at most 8 bytes. -/
theorem indexAny_short (s : ByteArray) (w : World) (h8 : s.size ≤ 8) :
    Calls Tryd.prog 58 #[.string s, .string ⟨#[32, 9, 10, 13, 59, 34, 39, 62]⟩] w fun e w' => e = .returned (.int .i64 (Lib.indexAny s.data.toList Pl.ends)) ∧ Below w.heap.size w w' := by
  have h8z : decide ((8 : Int) < (s.size : Int)) = false := decide_eq_false (by omega)
  go_enter Tryd.func58, Tryd.ntmps58
  go_wp2_with (go_at_call 74; refine (Tryd.strings_shouldUseASCIISet _ _).mono ?_; rintro e w1 ⟨rfl, hw⟩; subst hw; rw [h8z])
  have hit : (w1.iter s 0).heap[w1.heap.size]? = some (.stringIter s 0) := World.iter_heap _ _ _
  have hbi : Below w1.heap.size w1 (w1.iter s 0) := (Below.refl _ _).alloc (Nat.le_refl _) _
  obtain ⟨k, hk⟩ : ∃ k, w1.heap.size = k := ⟨_, rfl⟩
  rw [hk] at hit hbi ⊢
  generalize w1.iter s 0 = w2 at hit hbi ⊢
  go_loopg [9, 10] s.size (fun g _ _ wx => ∃ i : Nat, i + g = s.size ∧ wx.heap[k]? = some (.stringIter s i) ∧ Below k w1 wx ∧ Lib.NoAny s.data.toList Pl.ends i)
  case atStart => exact ⟨0, by omega, hit, hbi, Lib.NoAny.zero _ _⟩
  case round =>
    obtain ⟨i, hig, hit, hbi, hno⟩ := hrel
    have HN := Lib.hid hno
    clear hno
    by_cases hi : i < s.size
    · obtain ⟨x, hx⟩ : ∃ x : UInt8, s[i]'hi = x := ⟨_, rfl⟩
      have hxl : s.data.toList[i]? = some x := by rw [← hx]; exact Lib.data_getElem? s i hi
      by_cases hx128 : x.toNat < 128
      · have hnx := fun ty => Lib.run_next_ascii_at (P := Tryd.prog) wr k s i ty hit hi (by rw [hx]; exact hx128)
        rw [hx] at hnx
        have hit2 := Lib.iterAt_heap wr k s i (i + 1) hit
        have hbi2 := Lib.below_iterAt hbi (Nat.le_refl k) s (i + 1)
        generalize wr.iterAt k s (i + 1) = w3 at hnx hit2 hbi2
        have Hx := Lib.hid hxl
        clear hxl hx
        have hcon := Lib.contains_iff_indexByte Pl.ends x
        cases hin : Pl.ends.contains x
        · rw [hin] at hcon
          have hlt : ¬ ((0 : Int) ≤ Lib.indexByte Pl.ends x) := of_decide_eq_false hcon.symm
          clear hcon
          go_wp2_with (go_at_call 73; refine (indexRune_near _ _ hx128).mono ?_; rintro e w4 ⟨rfl, hw⟩; subst hw)
          go_roundg (s.size - (i + 1))
          case measure => omega
          case rel => exact ⟨i + 1, by omega, hit2, hbi2, HN.out.succ Hx.out hin⟩
        · rw [hin] at hcon
          have hge : (0 : Int) ≤ Lib.indexByte Pl.ends x := of_decide_eq_true hcon.symm
          clear hcon
          go_wp2_with (go_at_call 73; refine (indexRune_near _ _ hx128).mono ?_; rintro e w4 ⟨rfl, hw⟩; subst hw)
          go_ret
          exact ⟨ret_int (by rw [Lib.indexAny_hit HN.out Hx.out hin]), by rw [hk]; exact hbi2⟩
      · obtain ⟨hsp1, hsp2⟩ := decode_span s i hi (by rw [hx]; omega)
        obtain ⟨hd1, hd2⟩ := decode_high s i hi (by rw [hx]; omega)
        have hd3 := decode_le s i
        have hno2 := noAny_more HN.out hsp2
        have hnx := fun ty => Lib.run_next_any_at (P := Tryd.prog) wr k s i ty hit hi
        have hit2 := Lib.iterAt_heap wr k s i (i + (Utf8.decode s i).2) hit
        have hbi2 := Lib.below_iterAt hbi (Nat.le_refl k) s (i + (Utf8.decode s i).2)
        generalize wr.iterAt k s (i + (Utf8.decode s i).2) = w3 at hnx hit2 hbi2
        clear hsp2
        generalize (Utf8.decode s i).1 = r at hnx hd1 hd3
        generalize (Utf8.decode s i).2 = n at hit2 hd2 hsp1 hno2
        have HNO := Lib.hid hno2
        clear hno2 hx hxl
        have hkw : k < w3.heap.size := (Array.getElem?_eq_some_iff.1 hit2).1
        go_wp2_with (go_at_call 73; refine (indexRune_far r _ hd1 hd3).mono ?_; rintro e w4 ⟨rfl, hb4⟩)
        go_roundg (s.size - (i + n))
        case measure => omega
        case rel => exact ⟨i + n, by omega, (hb4.block k hkw).trans hit2, hbi2.trans (hb4.mono (by omega)), HNO.out⟩
    · have hie : i = s.size := by omega
      subst hie
      have hnx := fun ty => Lib.run_next_end_at (P := Tryd.prog) wr k s s.size ty hit (by omega)
      go_wp2
      go_ret
      exact ⟨ret_int (by rw [Lib.indexAny_none (by rw [← Lib.size_eq]; exact HN.out)]), by rw [hk]; exact hbi⟩

/-- strings.IndexAny at the ends of a value. -/
theorem indexAny_ends (s : ByteArray) (w : World) (hs : s.size < 4294967281) :
    Calls Tryd.prog 58 #[.string s, .string ⟨#[32, 9, 10, 13, 59, 34, 39, 62]⟩] w fun e w' => e = .returned (.int .i64 (Lib.indexAny s.data.toList Pl.ends)) ∧ Below w.heap.size w w' := by
  by_cases h8 : s.size ≤ 8
  · exact indexAny_short s w h8
  · refine (Tryd.strings_IndexAny_long (zero_of_info (P := Tryd.prog) (n := 256) (by kernel_rfl)).1 s ⟨#[32, 9, 10, 13, 59, 34, 39, 62]⟩ w (by decide) (by omega) hs (by decide) (ascii_of_all (by decide))).mono fun e w' ⟨h1, h2⟩ => ⟨h1, ?_⟩
    rw [h2]
    exact ((Below.refl _ _).alloc (Nat.le_refl _) _).alloc (by simp) _
/-- .. at one byte. -/
theorem indexAny_byte (s : ByteArray) (c : UInt8) (w : World) (hc : c.toNat < 128) :
    Calls Tryd.prog 58 #[.string s, .string ⟨#[c]⟩] w fun e w' => e = .returned (.int .i64 (Lib.indexAny s.data.toList [c])) ∧ Below w.heap.size w w' :=
  (Tryd.strings_IndexAny_one s ⟨#[c]⟩ w rfl (ascii_of_all (by simp; exact hc))).mono fun e w' ⟨h1, h2⟩ => ⟨h1, h2 ▸ Below.refl _ _⟩
end Go.Proofs.YtefohnbmifblkaaDoor
