/-
  The walk of strings.IndexAny at the ends of a value, for every text shorter than 2^32 - 15 bytes (its bytes need not be ASCII), and of sniff.value: it returns what the plain function value says.
-/
import Derived.Test.YtefohnbmifblkabDoorPlA
import Derived.Test.YtefohnbmifblkabDoorMem
import Derived.Test.YtefohnbmifblkabDoorRows
import Derived.Test.YtefohnbmifblkabDoorShelf
import Derived.Laws.RangeAny
import Derived.Deep.LoopGhost
namespace Go.Proofs.YtefohnbmifblkabDoor
open Go.RowKit

theorem encode_last (r : Nat) (h : 128 ≤ r) : ∃ (n : Nat) (hn : n < (Utf8.encode (r : Int)).size), 1 ≤ n ∧ n ≤ 3 ∧ (Utf8.encode (r : Int)).size = n + 1 ∧ 128 ≤ ((Utf8.encode (r : Int))[n]).toNat := by
  have key : ∀ c : Nat, 128 ≤ c → ∀ b : ByteArray,
      b = (if c < 0x80 then ⟨#[UInt8.ofNat c]⟩ else if c < 0x800 then ⟨#[UInt8.ofNat (0xC0 + c / 64), UInt8.ofNat (0x80 + c % 64)]⟩ else if c < 0x10000 then ⟨#[UInt8.ofNat (0xE0 + c / 4096), UInt8.ofNat (0x80 + c / 64 % 64), UInt8.ofNat (0x80 + c % 64)]⟩ else ⟨#[UInt8.ofNat (0xF0 + c / 262144), UInt8.ofNat (0x80 + c / 4096 % 64), UInt8.ofNat (0x80 + c / 64 % 64), UInt8.ofNat (0x80 + c % 64)]⟩) →
      ∃ (n : Nat) (hn : n < b.size), 1 ≤ n ∧ n ≤ 3 ∧ b.size = n + 1 ∧ 128 ≤ (b[n]).toNat := by
    intro c hc b hb
    have hl : (UInt8.ofNat (0x80 + c % 64)).toNat = 128 + c % 64 := by
      rw [UInt8.toNat_ofNat']
      omega
    rw [if_neg (by omega)] at hb
    split at hb
    · subst hb
      exact ⟨1, by show 1 < 2; omega, by omega, by omega, rfl, by show 128 ≤ (UInt8.ofNat (0x80 + c % 64)).toNat; omega⟩
    · split at hb
      · subst hb
        exact ⟨2, by show 2 < 3; omega, by omega, by omega, rfl, by show 128 ≤ (UInt8.ofNat (0x80 + c % 64)).toNat; omega⟩
      · subst hb
        exact ⟨3, by show 3 < 4; omega, by omega, by omega, rfl, by show 128 ≤ (UInt8.ofNat (0x80 + c % 64)).toNat; omega⟩
  refine key (if Utf8.valid (r : Int) = true then (r : Int).toNat else Utf8.runeError) ?_ _ rfl
  split
  · omega
  · decide

theorem indexByte_far (c : UInt8) (hc : 128 ≤ c.toNat) : ∀ l : List UInt8, (∀ b ∈ l, b.toNat < 128) → Lib.indexByte l c = -1
  | [], _ => rfl
  | b :: l, h => by
    have hb : b ≠ c := fun e => by
      have := h b (by simp)
      rw [e] at this
      omega
    have ih := indexByte_far c hc l fun x hx => h x (by simp [hx])
    unfold Lib.indexByte
    simp [hb, ih]

set_option maxHeartbeats 1000000 in
set_option maxRecDepth 1000000 in
theorem indexRune_bad (w : World) :
    Calls Tryd.prog 62 #[.string ⟨#[32, 9, 10, 13, 59, 34, 39, 62]⟩, .int .i32 65533] w fun e w' => e = .returned (.int .i64 (-1)) ∧ Below w.heap.size w w' := by
  go_enter Tryd.func62, Tryd.ntmps62
  go_wp2
  obtain ⟨S, hS⟩ : ∃ S : ByteArray, (⟨#[32, 9, 10, 13, 59, 34, 39, 62]⟩ : ByteArray) = S := ⟨_, rfl⟩
  rw [hS]
  have HS := Lib.hid hS
  clear hS
  go_loopg [5, 6] 8 (fun g _ _ wx => ∃ i : Nat, i + g = 8 ∧ wx = w.iter S i)
  case atStart => exact ⟨0, by omega, rfl⟩
  case round =>
    obtain ⟨i, hig, rfl⟩ := hrel
    cases gk with
    | zero =>
      obtain rfl : i = 8 := by omega
      have hnx := fun ty => run_next_end (P := Tryd.prog) w S 8 ty (by rw [← HS.out]; decide)
      go_wp2
      go_ret
      exact ⟨rfl, (Below.refl _ _).alloc (Nat.le_refl _) _⟩
    | succ g =>
      have hi : i < S.size := by rw [← HS.out]; show i < 8; omega
      have hx : (S[i]'hi).toNat < 128 := by
        have : ∀ j (hj : j < 8), ((ByteArray.mk #[32, 9, 10, 13, 59, 34, 39, 62])[j]'hj).toNat < 128 := by decide
        have h2 := this i (by omega)
        have h3 := HS.out
        subst h3
        exact h2
      have hnx := fun ty => run_next_ascii (P := Tryd.prog) w S i ty hi hx
      have hne : (((S[i]'hi).toNat : Int) == 65533) = false := beq_eq_false_iff_ne.2 (by omega)
      go_wp2
      go_roundg g
      case measure => omega
      case rel => exact ⟨i + 1, by omega, rfl⟩
set_option maxHeartbeats 1000000 in
set_option maxRecDepth 1000000 in
theorem indexRune_no (r : Int) (w : World) (h1 : 128 ≤ r) (h2 : r ≤ 2147483647) (hr : (r == 65533) = false) (hv : Lib.validRune r = false) :
    Calls Tryd.prog 62 #[.string ⟨#[32, 9, 10, 13, 59, 34, 39, 62]⟩, .int .i32 r] w fun e w' => e = .returned (.int .i64 (-1)) ∧ Below w.heap.size w w' := by
  go_enter Tryd.func62, Tryd.ntmps62
  go_wp2_with (go_at_call 74; refine (Tryd.utf8_ValidRune _ _).mono ?_; rintro e w1 ⟨rfl, rfl⟩)
  go_ret
  exact ⟨rfl, Below.refl _ _⟩
theorem conv_rune {P : Program} {src dst : TypeId} (hs : P.underlying src = some (.int .i32)) (hd : P.underlying dst = some .string) (r : Int) (w : World) :
    (convert src dst (.int .i32 r)).run P w = .ok (.string (Utf8.encode r)) w := by
  simp [convert, run_underlying hs, run_underlying hd, Conv.intToString]

theorem far_any (s : ByteArray) (c : UInt8) (hc : 128 ≤ c.toNat) (w : World) (hs : s.data.toList.all (fun b => decide (b.toNat < 128)) = true) :
    Calls Tryd.prog 73 #[.string s, .int .u8 c.toNat] w fun e w' => e = .returned (.int .i64 (-1)) ∧ w' = w := by
  refine (Tryd.strings_IndexByte s c.toNat w).mono ?_
  rintro e w' ⟨rfl, hw⟩
  refine ⟨ret_int ?_, hw⟩
  rw [show ((c.toNat : Int)).toNat.toUInt8 = c by simp]
  exact indexByte_far c hc _ fun b hb => of_decide_eq_true (List.all_eq_true.1 hs b hb)

set_option maxHeartbeats 1000000 in
set_option maxRecDepth 1000000 in
theorem indexRune_yes (r : Nat) (w : World) (h1 : 128 ≤ r) (h2 : r ≤ 2147483647) (hr : ((r : Int) == 65533) = false) (hv : Lib.validRune (r : Int) = true) :
    Calls Tryd.prog 62 #[.string ⟨#[32, 9, 10, 13, 59, 34, 39, 62]⟩, .int .i32 r] w fun e w' => e = .returned (.int .i64 (-1)) ∧ Below w.heap.size w w' := by
  have HE := Lib.hid (encode_last r h1)
  have HV := Lib.hid hv
  clear hv
  go_enter Tryd.func62, Tryd.ntmps62
  go_wp2_with fail
  refine (Tryd.utf8_ValidRune _ _).mono ?_
  rintro e w1 ⟨rfl, hw⟩
  subst hw
  rw [HV.out]
  go_wp2_with fail
  go_step3
  go_wp2_with fail
  obtain ⟨E, hE⟩ : ∃ E, Utf8.encode (r : Int) = E := ⟨_, rfl⟩
  have HE2 : ∃ (n : Nat) (hn : n < E.size), 1 ≤ n ∧ n ≤ 3 ∧ E.size = n + 1 ∧ 128 ≤ (E[n]).toNat := by
    subst hE
    exact HE.out
  rw [hE]
  clear hE HE
  obtain ⟨n, hn, n1, n3, hsz, hlast⟩ := HE2
  obtain ⟨c, hc⟩ : ∃ c, E[n] = c := ⟨_, rfl⟩
  rw [hc] at hlast
  have hsz1 : (n : Int) < (E.size : Int) := by omega
  have HZ := Lib.hid hsz
  clear hsz
  obtain rfl | rfl | rfl : n = 1 ∨ n = 2 ∨ n = 3 := by omega
  · have hw64 : wrap64 ((E.size : Int) - 1) = 1 := by rw [HZ.out]; unfold wrap64; omega
    rw [hw64]
    clear hw64
    have hneq : (((ByteArray.mk #[32, 9, 10, 13, 59, 34, 39, 62])[1].toNat : Int) != (c.toNat : Int)) = true := by rw [bne_iff_ne]; show (9 : Int) ≠ _; omega
    refine wp_loop_rounds 1 ?_
    rw [rounds_succ]
    go_wp2_with fail
    go_step3
    go_wp2_with fail
    go_quiet (fail)
    have HD : Drew w1 (w1.drewN nq) := ⟨_, rfl⟩
    generalize w1.drewN nq = w2 at HD ⊢
    go_wp2_with fail
    go_quiet ((go_at_call 73; exact Calls.quiet_of_same (far_any _ c hlast _ (by decide))))
    go_wp2_with fail
    rw [Exit.noGoto_ret]
    go_wp2_with fail
    rw [Exit.noGoto_ret]
    go_wp2_with fail
    go_ret
    exact ⟨rfl, (HD.trans ⟨_, rfl⟩).below⟩
  
  · have hw64 : wrap64 ((E.size : Int) - 1) = 2 := by rw [HZ.out]; unfold wrap64; omega
    rw [hw64]
    clear hw64
    have hneq : (((ByteArray.mk #[32, 9, 10, 13, 59, 34, 39, 62])[2].toNat : Int) != (c.toNat : Int)) = true := by rw [bne_iff_ne]; show (10 : Int) ≠ _; omega
    refine wp_loop_rounds 1 ?_
    rw [rounds_succ]
    go_wp2_with fail
    go_step3
    go_wp2_with fail
    go_quiet (fail)
    have HD : Drew w1 (w1.drewN nq) := ⟨_, rfl⟩
    generalize w1.drewN nq = w2 at HD ⊢
    go_wp2_with fail
    go_quiet ((go_at_call 73; exact Calls.quiet_of_same (far_any _ c hlast _ (by decide))))
    go_wp2_with fail
    rw [Exit.noGoto_ret]
    go_wp2_with fail
    rw [Exit.noGoto_ret]
    go_wp2_with fail
    go_ret
    exact ⟨rfl, (HD.trans ⟨_, rfl⟩).below⟩
  
  · have hw64 : wrap64 ((E.size : Int) - 1) = 3 := by rw [HZ.out]; unfold wrap64; omega
    rw [hw64]
    clear hw64
    have hneq : (((ByteArray.mk #[32, 9, 10, 13, 59, 34, 39, 62])[3].toNat : Int) != (c.toNat : Int)) = true := by rw [bne_iff_ne]; show (13 : Int) ≠ _; omega
    refine wp_loop_rounds 1 ?_
    rw [rounds_succ]
    go_wp2_with fail
    go_step3
    go_wp2_with fail
    go_quiet (fail)
    have HD : Drew w1 (w1.drewN nq) := ⟨_, rfl⟩
    generalize w1.drewN nq = w2 at HD ⊢
    go_wp2_with fail
    go_quiet ((go_at_call 73; exact Calls.quiet_of_same (far_any _ c hlast _ (by decide))))
    go_wp2_with fail
    rw [Exit.noGoto_ret]
    go_wp2_with fail
    rw [Exit.noGoto_ret]
    go_wp2_with fail
    go_ret
    exact ⟨rfl, (HD.trans ⟨_, rfl⟩).below⟩
end Go.Proofs.YtefohnbmifblkabDoor
