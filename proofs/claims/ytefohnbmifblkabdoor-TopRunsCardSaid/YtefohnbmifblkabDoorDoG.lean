/-
  detect.Do at every act: it does what doDS says; a good detector stays good.
-/
import Derived.Test.YtefohnbmifblkabDoorDoF
namespace Go.Proofs.YtefohnbmifblkabDoor
open Go.RowKit

theorem look_range (t : List UInt8) : ∀ l : List (List UInt8 × Int), (∀ p ∈ l, 0 ≤ p.2 ∧ p.2 ≤ 6) → 0 ≤ Pl.look t l ∧ Pl.look t l ≤ 6
  | [], _ => by simp [Pl.look]
  | p :: r, h => by
    unfold Pl.look
    split
    · exact h p (by simp)
    · exact look_range t r fun q hq => h q (by simp [hq])
theorem find_range (s : List UInt8) : 0 ≤ Pl.find s ∧ Pl.find s ≤ 6 := by
  unfold Pl.find
  split
  · simp
  · exact look_range _ _ (by decide)
theorem labelIn_range (whole : Bool) : ∀ s : List UInt8, 0 ≤ (Pl.labelIn whole s).1 ∧ (Pl.labelIn whole s).1 ≤ 6
  | [] => by simp [Pl.labelIn]
  | b :: r => by
    have h := find_range (Pl.value ((b :: r).drop 8)).1
    have ih := labelIn_range whole r
    unfold Pl.labelIn
    repeat' split
    all_goals first
      | exact ih
      | exact h
      | simp
theorem bestTo_range (sc : Nat → Int) : bestTo sc 6 ≤ 6 := bestTo_le sc 6

/-- a good detector. -/
structure OkD (d : DS) : Prop where
  h0 : 0 ≤ d.hint
  h1 : d.hint ≤ 6
  a0 : 0 ≤ d.acts
  a1 : d.acts ≤ 300
  len : d.bs.length ≤ 4000
  sc : ScB d.bs.length d.sc
  l0 : -1 ≤ d.last
  l1 : d.last ≤ 255

theorem mark_range (l : List UInt8) : (Pl.mark l).1 = 0 ∨ (1 ≤ (Pl.mark l).1 ∧ (Pl.mark l).1 ≤ 6) := by
  unfold Pl.mark
  repeat' split
  all_goals simp
theorem label_range (l : List UInt8) : 0 ≤ (Pl.label l).1 ∧ (Pl.label l).1 ≤ 6 := by
  unfold Pl.label
  first
    | exact labelIn_range _ _
    | (split <;> exact labelIn_range _ _)
theorem vd_range (d : DS) (h0 : 0 ≤ d.hint) (h1 : d.hint ≤ 6) : 1 ≤ (vd d).1 ∧ (vd d).1 ≤ 6 := by
  have hm := mark_range d.bs
  have hl := label_range d.bs
  have hb := bestTo_range d.sc
  unfold vd
  split
  · dsimp only
    omega
  split
  · dsimp only
    omega
  split
  · dsimp only
    omega
  split
  · dsimp only
    omega
  · dsimp only
    omega

theorem byte_range (c : UInt8) : 0 ≤ Pl.byte c ∧ Pl.byte c ≤ 255 := by
  have := c.toNat_lt
  unfold Pl.byte
  omega
theorem feedSc_ok : ∀ (l : List UInt8) (sc : Nat → Int) (last n : Int), 0 ≤ n → ScB n sc → -1 ≤ last → last ≤ 255 → ScB (n + l.length) (feedSc sc last l).1 ∧ -1 ≤ (feedSc sc last l).2 ∧ (feedSc sc last l).2 ≤ 255
  | [], sc, last, n, _, h, h0, h1 => by
    refine ⟨?_, h0, h1⟩
    simpa [feedSc] using h
  | c :: l, sc, last, n, hn, h, h0, h1 => by
    have hc := byte_range c
    have ih := feedSc_ok l (scNext sc last (Pl.byte c)) (Pl.byte c) (n + 1) (by omega) (h.next hn _ _) (by omega) hc.2
    have e : n + ((c :: l).length : Int) = n + 1 + (l.length : Int) := by rw [List.length_cons]; omega
    rw [e]
    exact ih

theorem OkD.tick {d : DS} (h : OkD d) (ha : d.acts < 300) : OkD (tick d) := ⟨h.h0, h.h1, by have := h.a0; show 0 ≤ d.acts + 1; omega, by show d.acts + 1 ≤ 300; omega, h.len, h.sc, h.l0, h.l1⟩
theorem OkD.fin {d : DS} (h : OkD d) (ha : d.acts < 300) : OkD (fin d) := ⟨h.h0, h.h1, by have := h.a0; show 0 ≤ d.acts + 1; omega, by show d.acts + 1 ≤ 300; omega, h.len, h.sc, h.l0, h.l1⟩
theorem OkD.fed {d : DS} (h : OkD d) (ha : d.acts < 300) (l : List UInt8) (hl : d.bs.length + l.length ≤ 4000) : OkD (fed d l) := by
  have hs := feedSc_ok l d.sc d.last d.bs.length (by omega) h.sc h.l0 h.l1
  refine ⟨h.h0, h.h1, by have := h.a0; show 0 ≤ d.acts + 1; omega, by show d.acts + 1 ≤ 300; omega, ?_, ?_, hs.2.1, hs.2.2⟩
  · show (d.bs ++ l).length ≤ 4000
    rw [List.length_append]
    exact hl
  · show ScB ((d.bs ++ l).length : Int) (feedSc d.sc d.last l).1
    rw [List.length_append]
    have := hs.1
    simpa using this
theorem OkD.doDS {d : DS} (h : OkD d) (k : Int) (l : List UInt8) : OkD (doDS d k l).1 := by
  unfold Go.Proofs.YtefohnbmifblkabDoor.doDS
  split
  · exact h
  · rename_i ha
    have ha : d.acts < 300 := by omega
    split
    · exact h.tick ha
    split
    · exact h.tick ha
    split
    · exact h.tick ha
    split
    · exact h.fin ha
    split
    · exact h.tick ha
    · rename_i hl
      exact h.fed ha l (by omega)

theorem do_any (base b : Nat) (o : Option Nat) (d : DS) (k : Int) (bs : ByteArray) (w : World) (hdet : Det base w b o d) (hok : OkD d) (hg : Gl w) (hgb : Gb base) (hs : bs.size ≤ maxLen) :
    Calls Tryd.prog 10 #[.pointer (some ⟨b, 0, none⟩), .agg #[.int .i64 k, .string bs]] w fun e w' => AnsD base w b o (doDS d k bs.data.toList).1 (doDS d k bs.data.toList).2 e w' := by
  have hbl : bs.data.toList.length = bs.size := by simp
  unfold doDS
  by_cases ha : 300 ≤ d.acts
  · rw [if_pos ha]
    exact do_full base b o d k bs w hdet ha
  have ha2 : d.acts < 300 := by omega
  rw [if_neg ha]
  by_cases hk : k < 1 ∨ 3 < k
  · rw [if_pos hk]
    exact do_kind base b o d k bs w hdet hok.a0 ha2 hk
  rw [if_neg hk]
  by_cases hk2 : k = 2
  · rw [if_pos hk2]
    subst hk2
    exact do_ask base b o d bs w hdet hok.a0 ha2 hg hgb hok.len
  rw [if_neg hk2]
  by_cases he : d.ended = true
  · rw [if_pos he]
    exact do_ended base b o d k bs w hdet hok.a0 ha2 (by omega) (by omega) hk2 he
  have he2 : d.ended = false := by simpa using he
  rw [if_neg he]
  by_cases hk3 : k = 3
  · rw [if_pos hk3]
    subst hk3
    exact do_finish base b o d bs w hdet hok.a0 ha2 he2 (vd_range _ hok.h0 hok.h1) hg hgb hok.len
  rw [if_neg hk3]
  have hk1 : k = 1 := by omega
  subst hk1
  rw [hbl]
  by_cases hl : 4000 < d.bs.length + bs.size
  · rw [if_pos hl]
    exact do_long base b o d 1 bs w hdet hok.a0 ha2 rfl he2 hok.len hs hl
  · rw [if_neg hl]
    exact do_feed base b o d bs w hdet hok.a0 ha2 he2 (by omega) hok.sc hok.l0 hok.l1
end Go.Proofs.YtefohnbmifblkabDoor
