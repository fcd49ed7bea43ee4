/-
  The walks of auto.Accepts and of TopScored.
-/
import Derived.Test.YtefohnbmifblkabDoorTpH
import Derived.Test.YtefohnbmifblkabDoorTpR
import Derived.Deep.RegionWith
namespace Go.Proofs.YtefohnbmifblkabDoor
open Go.RowKit

theorem aRun_range (e : Int) : ∀ (l : List UInt8) (a : Int), 0 ≤ a → a ≤ 9 → 0 ≤ Pl.aRun e a l ∧ Pl.aRun e a l ≤ 9
  | [], _, h0, h1 => ⟨h0, h1⟩
  | c :: l, a, _, _ => aRun_range e l _ (Pl.aStep_range e a (Pl.byte c)).1 (Pl.aStep_range e a (Pl.byte c)).2
theorem aRun_succ (e : Int) (l : List UInt8) (k : Nat) (c : UInt8) (h : l[k]? = some c) : Pl.aRun e 0 (l.take (k + 1)) = Pl.aStep e (Pl.aRun e 0 (l.take k)) (Pl.byte c) := by
  obtain ⟨hk, rfl⟩ := List.getElem?_eq_some_iff.1 h
  rw [← List.take_append_getElem hk, aRun_app]
  rfl

set_option maxRecDepth 100000 in
set_option maxHeartbeats 2000000 in
theorem accepts_any (e : Int) (bs : ByteArray) (w : World) (he1 : 1 ≤ e) (he6 : e ≤ 6) (hs : bs.size ≤ maxLen) :
    Calls Tryd.prog 16 #[.int .i64 e, .string bs] w fun x w' => x = .returned (.bool (Pl.aEnds e (Pl.aRun e 0 bs.data.toList))) ∧ w = w' := by
  unfold maxLen at hs
  have hs0 : bs.data.toList.length = bs.size := by simp
  go_enter Tryd.func16, Tryd.ntmps16
  go_wp2_with fail
  go_loopw [5, 15] (fun s i wr => w = wr ∧ ∃ k : Nat, k ≤ bs.size ∧ i = .int .i64 k ∧ s = .int .i64 (Pl.aRun e 0 (bs.data.toList.take k))) (fun _ i _ => bs.size - (intOf i).toNat)
  case atStart => exact ⟨rfl, 0, by omega, rfl, rfl⟩
  case round =>
    obtain ⟨rfl, k, hk, rfl, rfl⟩ := hrel
    obtain ⟨a, ha⟩ : ∃ a, Pl.aRun e 0 (bs.data.toList.take k) = a := ⟨_, rfl⟩
    have hr := aRun_range e (bs.data.toList.take k) 0 (by omega) (by omega)
    rw [ha] at hr ⊢
    obtain ⟨ha0, ha9⟩ := hr
    have HAk := Lib.hid ha
    clear ha
    by_cases hlt : k < bs.size
    · have hi0 : (0 : Int) ≤ (k : Int) := by omega
      have hi1 : (k : Int) < (bs.size : Int) := by omega
      obtain ⟨c, hc⟩ : ∃ c, bs.data.toList[k]'(by simpa using hlt) = c := ⟨_, rfl⟩
      obtain ⟨y, hy⟩ : ∃ y : Nat, c.toNat = y := ⟨_, rfl⟩
      have hix : ∀ h : k < bs.size, (bs[k]'h).toNat = y := fun h => by rw [← hy, ← hc]; rfl
      have hy2 : (y : Int) ≤ 255 := by have := c.toNat_lt; omega
      have hwb : IntKind.i64.wrap (y : Int) = (y : Int) := by rw [IntKind.wrap_i64]; omega
      have HN := Lib.hid (show Pl.aStep e a (y : Int) = Pl.aRun e 0 (bs.data.toList.take (k + 1)) by
        rw [aRun_succ e _ k c (by rw [List.getElem?_eq_getElem (by omega), hc]), HAk.out]
        unfold Pl.byte
        rw [hy])
      have HS1 : Hid (∀ W, Calls Tryd.prog 25 #[.int .i64 e, .int .i64 a, .int .i64 (y : Int)] W fun x w' => x = .returned (.int .i64 (Pl.aStep e a (y : Int))) ∧ W = w') := Lib.hid fun W => aStep_any e a (y : Int) W he1 he6 ha0 ha9 (by omega) hy2
      clear hc hy
      go_wp2_with fail
      refine (HS1.out _).mono ?_
      rintro e2 w2 ⟨rfl, hw2⟩
      subst hw2
      rw [HN.out]
      go_wp2_with fail
      go_roundw
      case rel => exact ⟨trivial, k + 1, by omega, by go_num, rfl⟩
      case measure => simp [intOf]; omega
    · have hk2 : k = bs.data.toList.length := by omega
      have hend : Pl.aRun e 0 bs.data.toList = a := by
        rw [← HAk.out, hk2, List.take_length]
      have HE : Hid (∀ W, Calls Tryd.prog 26 #[.int .i64 e, .int .i64 a] W fun x w' => x = .returned (.bool (Pl.aEnds e (Pl.aRun e 0 bs.data.toList))) ∧ W = w') := Lib.hid fun W => by
        rw [hend]
        exact aEnds_any e a W
      clear hend hk2
      go_wp2_with fail
      refine (HE.out _).mono ?_
      rintro e2 w2 ⟨rfl, hw2⟩
      subst hw2
      go_wp2_with fail
      go_ret
      exact ⟨rfl, rfl⟩

set_option maxRecDepth 100000 in
set_option maxHeartbeats 2000000 in
/-- the reply is not looked at. -/
theorem scored_skip (b : Value) (k : Int) (bs : ByteArray) (c x y : Int) (f : Bool) (u : Value) (W : World) (h : ¬ k = 3 ∨ ¬ c = 0 ∨ ¬ y = 4) :
    Calls Tryd.prog 15 #[b, .agg #[.int .i64 k, .string bs], .agg #[.int .i64 c, .int .i64 x, .int .i64 y, .bool f, u]] W fun e w' => e = .returned (.bool true) ∧ Below W.heap.size W w' := by
  by_cases hk : k = 3
  · subst hk
    by_cases hc : c = 0
    · subst hc
      have hy : ¬ y = 4 := by rcases h with h | h | h; exact absurd rfl h; exact absurd rfl h; exact h
      have hyb : (y != 4) = true := by rw [bne_iff_ne]; exact hy
      clear h
      go_enter Tryd.func15, Tryd.ntmps15
      go_wp2
      go_ret
      exact ⟨rfl, two_new _ _ _⟩
    · have hcb : (c != 0) = true := by rw [bne_iff_ne]; exact hc
      clear h
      go_enter Tryd.func15, Tryd.ntmps15
      go_wp2
      go_ret
      exact ⟨rfl, two_new _ _ _⟩
  · have hkb : (k != 3) = true := by rw [bne_iff_ne]; exact hk
    clear h
    go_enter Tryd.func15, Tryd.ntmps15
    go_wp2
    go_ret
    exact ⟨rfl, two_new _ _ _⟩

set_option maxRecDepth 100000 in
set_option maxHeartbeats 4000000 in
theorem scored_look (w : World) (b : Nat) (d : DS) (bs : ByteArray) (x : Int) (f : Bool) (u : Value) (xs : List Int) (W : World) (hat : At w b d W) (hu : Ints W u xs) (hl : xs.length ≤ maxLen) (hb : (-1 : Int) ∉ xs) (hx0 : 1 ≤ x) (hx1 : x ≤ 6) (hz : d.bs.length ≤ maxLen) (ha : Pl.aEnds x (Pl.aRun x 0 d.bs) = true) :
    Calls Tryd.prog 15 #[.pointer (some ⟨b, 0, none⟩), .agg #[.int .i64 3, .string bs], .agg #[.int .i64 0, .int .i64 x, .int .i64 4, .bool f, u]] W fun e w' => e = .returned (.bool true) ∧ Below W.heap.size W w' := by
  have HAT := Lib.hid hat
  have HU := Lib.hid hu
  have HB := Lib.hid hb
  have HZ : Hid ((⟨d.bs.toArray⟩ : ByteArray).size ≤ maxLen) := Lib.hid hz
  have HAc := Lib.hid ha
  obtain ⟨p, c, rfl, _⟩ := hu
  unfold maxLen at hl
  clear hat hb hz ha
  go_enter Tryd.func15, Tryd.ntmps15
  go_wp2_with fail
  have hb2 : Below W.heap.size W ((W.alloc (.cells #[.int .i64 3, .string bs] 24)).alloc (.cells #[.int .i64 0, .int .i64 x, .int .i64 4, .bool f, .slice p xs.length c] 34)) := two_new _ _ _
  have hr2 : ((W.alloc (.cells #[.int .i64 3, .string bs] 24)).alloc (.cells #[.int .i64 0, .int .i64 x, .int .i64 4, .bool f, .slice p xs.length c] 34)).heap[W.heap.size + 1]? = some (.cells #[.int .i64 0, .int .i64 x, .int .i64 4, .bool f, .slice p xs.length c] 34 (0, 0)) := by
    have h := heap_alloc_new (W.alloc (.cells #[.int .i64 3, .string bs] 24)) (.cells #[.int .i64 0, .int .i64 x, .int .i64 4, .bool f, .slice p xs.length c] 34)
    rw [show (W.alloc (.cells #[.int .i64 3, .string bs] 24)).heap.size = W.heap.size + 1 by simp] at h
    exact h
  generalize W.heap.size + 1 = R at hr2 ⊢
  generalize World.alloc _ _ = W2 at hb2 hr2 ⊢
  have HB2 := Lib.hid hb2
  have HR2 := Lib.hid hr2
  have HI := Lib.hid (HU.out.below hb2)
  have HA2 := Lib.hid (HAT.out.next hb2)
  clear hb2 hr2
  go_loopw [26] (fun i wr => W2 = wr ∧ ∃ k : Nat, k ≤ xs.length ∧ i = .int .i64 k) (fun i _ => xs.length - (intOf i).toNat)
  case atStart => exact ⟨rfl, 0, by omega, rfl⟩
  case round =>
    obtain ⟨rfl, k, hk, rfl⟩ := hrel
    by_cases hlt : k < xs.length
    · have hlt2 : (k : Int) < (xs.length : Int) := by omega
      obtain ⟨y, hy⟩ : ∃ y, xs[k]? = some y := ⟨_, List.getElem?_eq_getElem hlt⟩
      have hyb : (y == -1) = false := by
        rw [beq_eq_false_iff_ne]
        rintro rfl
        exact HB.out (List.mem_of_getElem? hy)
      obtain ⟨a', c', he, hI⟩ := HI.out
      injection he with he _ _
      subst he
      rcases hI with rfl | ⟨g, rfl, hI⟩
      · simp at hlt
      have c1 := hI k y hy
      clear hI hy
      go_wp2_with fail
      go_roundw
      case rel => exact ⟨trivial, k + 1, by omega, by go_num⟩
      case measure => simp [intOf]; omega
    · have r1 : W2.cell? ⟨R, 1, none⟩ = some (.int .i64 x) := cell_of_row W2 R 1 _ _ _ HR2.out
      have HBy : Hid (∀ W', Drew W2 W' → Calls Tryd.prog 11 #[.pointer (some ⟨b, 0, none⟩)] W' fun e w' => e = .returned (.string ⟨d.bs.toArray⟩) ∧ W' = w') := Lib.hid fun W' h => bytes_at w W' b d (HA2.out.next h.below)
      have HCc : Hid (∀ W', Calls Tryd.prog 16 #[.int .i64 x, .string ⟨d.bs.toArray⟩] W' fun e w' => e = .returned (.bool true) ∧ W' = w') := Lib.hid fun W' => by
        have h := accepts_any x ⟨d.bs.toArray⟩ W' hx0 hx1 HZ.out
        rw [show (⟨d.bs.toArray⟩ : ByteArray).data.toList = d.bs from rfl, HAc.out] at h
        exact h
      go_wp2_with fail
      go_region_with
        (first
          | (go_at_call 11
             with_reducible refine (HBy.out _ ?_).mono ?_
             · first | exact (Drew.refl W2).drew | exact Drew.refl W2 | exact ⟨_, rfl⟩
             rintro e3 w3 ⟨rfl, hw3⟩
             subst hw3)
          | (go_at_call 16
             with_reducible refine (HCc.out _).mono ?_
             rintro e4 w4 ⟨rfl, hw4⟩
             subst hw4))
      all_goals
        go_wp2_with fail
        go_ret
        exact ⟨rfl, HB2.out.trans (below_drewN (Below.refl _ W2) 1)⟩

theorem scored_looks (w : World) (d0 : DS) (l : List Ac) (h0 : OkD d0) (h1 : ScR d0) : Looks w d0 l 15 #[] (fun _ _ => True) := by
  intro k a W b u base hx _ _ hat hu
  have hok := (runA_ok d0 h0 (l.take k)).doDS a.1 a.2.data.toList
  have hsr : ∀ (l : List Ac) (d : DS), ScR d → ScR (runA d l) := fun l => by
    induction l with
    | nil => exact fun _ h => h
    | cons a l ih => exact fun d h => ih (act d a) (h.doDS _ _)
  have hsc := (hsr (l.take k) d0 h1).doDS a.1 a.2.data.toList
  have hkd := runA_ok d0 h0 (l.take k)
  have hol := out_len (runA d0 (l.take k)) hkd a.1 a.2.data.toList
  have hrep := ok_reply (runA d0 (l.take k)) a.1 a.2.data.toList
  have hvr := vd_range _ hok.h0 hok.h1
  have hlen := hok.len
  have hri := scored_right _ hsc
  have hout : a.1 = 3 → (doDS (runA d0 (l.take k)) a.1 a.2.data.toList).2.code = 0 → (doDS (runA d0 (l.take k)) a.1 a.2.data.toList).2.out = tell (vd (doDS (runA d0 (l.take k)) a.1 a.2.data.toList).1).1 (doDS (runA d0 (l.take k)) a.1 a.2.data.toList).1.bs := by
    intro h3
    rw [h3]
    unfold doDS
    repeat' split
    all_goals first
      | (intro h; simp [rp0] at h; done)
      | (intro _; rfl)
      | (intro _; omega)
  have hA := hat
  unfold act at hat
  obtain ⟨d1, hd1⟩ : ∃ x, (doDS (runA d0 (l.take k)) a.1 a.2.data.toList).1 = x := ⟨_, rfl⟩
  obtain ⟨r, hr⟩ : ∃ r, (doDS (runA d0 (l.take k)) a.1 a.2.data.toList).2 = r := ⟨_, rfl⟩
  rw [hd1] at hat hvr hlen hri hout hrep
  rw [hr] at hu hrep hout hol ⊢
  obtain ⟨cd, ⟨x, y, f⟩, out⟩ := r
  by_cases hc : ¬ a.1 = 3 ∨ ¬ cd = 0 ∨ ¬ y = 4
  · refine (scored_skip _ a.1 a.2 cd x y f u W hc).mono ?_
    rintro e w' ⟨rfl, hb⟩
    exact ⟨rfl, trivial, hA.next hb⟩
  · have ha3 : a.1 = 3 := Classical.byContradiction fun h => hc (.inl h)
    have hc0 : cd = 0 := Classical.byContradiction fun h => hc (.inr (.inl h))
    have hy4 : y = 4 := Classical.byContradiction fun h => hc (.inr (.inr h))
    subst hc0 hy4
    have hv : (x, (4 : Int), f) = vd d1 := hrep rfl (by omega)
    have ho : out = tell (vd d1).1 d1.bs := hout ha3 rfl
    rw [← hv] at hri hvr ho
    dsimp only at hri hvr ho
    obtain ⟨g1, g2⟩ := hri rfl
    rw [← ho] at g2
    rw [ha3]
    refine (scored_look w b d1 a.2 x f u out W hat (own_ints hu) (by dsimp only at hol; unfold maxLen; omega) g2 hvr.1 hvr.2 (by unfold maxLen; omega) g1).mono ?_
    rintro e w' ⟨rfl, hb⟩
    exact ⟨rfl, trivial, hA.next hb⟩
theorem enters_scored : ∀ args W, (callFunc 15 args).run Tryd.prog W = .ok (.enter 15 args) W := enters_of Tryd.func15 (by kernel_rfl) rfl

set_option maxRecDepth 100000 in
set_option maxHeartbeats 2000000 in
theorem topScored_walk (hint : ByteArray) (v : Value) (l : List Ac) (w : World) (hh : hint.size ≤ maxLen) (hl : Acts w v l) (hg : Gl w) :
    Calls Tryd.prog 6 #[.string hint, v] w fun e w' => e = .returned (.bool true) ∧ Below w.heap.size w w' := by
  have HG := Lib.hid hg
  have HH := Lib.hid hh
  have HA := Lib.hid hl
  obtain ⟨p, c, rfl, _⟩ := hl
  have hf := find_range hint.data.toList
  have HO := Lib.hid (okNew _ hf.1 hf.2)
  clear hg hh hf
  go_enter Tryd.func6, Tryd.ntmps6
  go_wp2_with fail
  refine (play_any w w hint _ l 15 #[] (fun _ _ => True) enters_scored (Below.refl _ _) HG.out HH.out HA.out (fun _ _ _ _ _ => trivial) (scored_looks w _ l HO.out (ScR.new _)) trivial).mono ?_
  rintro e1 w1 ⟨b, rfl, hA1, _⟩
  have HB1 := Lib.hid hA1.below
  clear hA1
  go_wp2_with fail
  go_ret
  exact ⟨rfl, HB1.out⟩
end Go.Proofs.YtefohnbmifblkabDoor
