/-
  The walk of detect.Tell.
-/
import Derived.Test.YtefohnbmifblkabDoorDcY
import Derived.Test.YtefohnbmifblkabDoorDetB
namespace Go.Proofs.YtefohnbmifblkabDoor
open Go.RowKit

/-- what bytes tell in an encoding, without a mark of it in front. -/
def tell (e : Int) (l : List UInt8) : List Int := Pl.dWhole e (if (Pl.mark l).1 = e then l.drop (Pl.mark l).2.toNat else l)

theorem mark_len (l : List UInt8) : 0 ≤ (Pl.mark l).2 ∧ (Pl.mark l).2 ≤ l.length := by
  unfold Pl.mark
  split
  · rename_i h
    have := (List.isPrefixOf_iff_prefix.1 h).length_le
    simp at this ⊢
    omega
  split
  · rename_i h
    have := (List.isPrefixOf_iff_prefix.1 h).length_le
    simp at this ⊢
    omega
  split
  · rename_i h
    have := (List.isPrefixOf_iff_prefix.1 h).length_le
    simp at this ⊢
    omega
  · simp

theorem extract_drop (bs : ByteArray) (k : Nat) : (bs.extract k bs.size).data.toList = bs.data.toList.drop k := by
  have h : bs.data.toList.length = bs.size := by simp
  rw [ByteArray.data_extract, Array.toList_extract, List.extract_eq_take_drop]
  exact List.take_of_length_le (by rw [List.length_drop, h]; exact Nat.le_refl _)
/-- what Tell answers: numbers in a slice of their own. -/
def AnsT (w : World) (l : List Int) (e : Ending) (w' : World) : Prop :=
  (∃ v, e = .returned v ∧ w'.ownsRow w.heap.size 3 1 v l.length (ints l)) ∧ Below w.heap.size w w'

set_option maxRecDepth 100000 in
set_option maxHeartbeats 4000000 in
theorem tell_any (e : Int) (bs : ByteArray) (w : World) (he : 1 ≤ e ∧ e ≤ 6) (hlen : bs.size ≤ 4000) (hg : Gl w) :
    Calls Tryd.prog 21 #[.int .i64 e, .string bs] w fun x w' => AnsT w (tell e bs.data.toList) x w' := by
  have hml := mark_len bs.data.toList
  have hs0 : bs.data.toList.length = bs.size := by simp
  obtain ⟨m, n, hm⟩ : ∃ m n, Pl.mark bs.data.toList = (m, n) := ⟨_, _, rfl⟩
  rw [hm, hs0] at hml
  obtain ⟨hn0, hn1⟩ := hml
  obtain ⟨k, rfl⟩ : ∃ k : Nat, n = (k : Int) := ⟨n.toNat, by omega⟩
  have hk : k ≤ bs.size := by simpa using hn1
  have hk2 : (k : Int) ≤ (bs.size : Int) := by omega
  have hk0 : (0 : Int) ≤ (k : Int) := by omega
  have HM : Hid (∀ W : World, Gl W → Calls Tryd.prog 27 #[.string bs] W fun x w' => x = .returned (.tuple #[.int .i64 m, .int .i64 (k : Int)]) ∧ Drew W w') := Lib.hid fun W h => by
    have := mark_any bs W h
    rwa [hm] at this
  have HW : Hid (∀ (b2 : ByteArray) (W : World), b2.size ≤ 4000 → Calls Tryd.prog 31 #[.int .i64 e, .string b2] W fun x w' => AnsE W (Pl.dWhole e b2.data.toList) x w') := Lib.hid fun b2 W h => whole_any e b2 W he h
  have HG := Lib.hid hg
  unfold tell
  rw [hm]
  dsimp only
  by_cases hme : m = e
  · subst hme
    rw [if_pos rfl]
    clear hm hg hn0 hn1 hs0 he
    go_enter Tryd.func21, Tryd.ntmps21
    go_wp2_with fail
    refine (HM.out _ HG.out).mono ?_
    rintro e1 w1 ⟨rfl, hd1⟩
    go_wp2_with fail
    refine (HW.out _ _ (by rw [ByteArray.size_extract]; omega)).mono ?_
    rintro e2 w2 ⟨⟨v, rfl, ho⟩, hb⟩
    have HO := Lib.hid ho
    have HB := Lib.hid hb
    have HD := Lib.hid hd1
    clear ho hb hd1
    go_wp2_with fail
    go_ret
    have hz := (HD.out.below (B := w.heap.size)).size
    have hO := HO.out
    rw [extract_drop] at hO
    exact ⟨⟨v, rfl, hO.mono hz⟩, bthen HD.out.below HB.out⟩
  · rw [if_neg hme]
    have hmb : (m == e) = false := beq_eq_false_iff_ne.2 hme
    clear hm hg hn0 hn1 hs0 he
    go_enter Tryd.func21, Tryd.ntmps21
    go_wp2_with fail
    refine (HM.out _ HG.out).mono ?_
    rintro e1 w1 ⟨rfl, hd1⟩
    go_wp2_with fail
    refine (HW.out _ _ hlen).mono ?_
    rintro e2 w2 ⟨⟨v, rfl, ho⟩, hb⟩
    have HO := Lib.hid ho
    have HB := Lib.hid hb
    have HD := Lib.hid hd1
    clear ho hb hd1
    go_wp2_with fail
    go_ret
    have hz := (HD.out.below (B := w.heap.size)).size
    exact ⟨⟨v, rfl, HO.out.mono hz⟩, bthen HD.out.below HB.out⟩
end Go.Proofs.YtefohnbmifblkabDoor
