/-
  The walk of DetectJudges.
-/
import Derived.Test.YtefohnbmifblkaaDoorRfH
import Derived.Test.YtefohnbmifblkaaDoorDoG
namespace Go.Proofs.YtefohnbmifblkaaDoor
open Go.RowKit

set_option maxRecDepth 100000 in
set_option maxHeartbeats 4000000 in
theorem detects_any (w : World) (hg : Gl w) :
    Calls Tryd.prog 34 #[] w fun e w' => e = .returned (.bool true) ∧ Below w.heap.size w w' := by
  have HG := Lib.hid hg
  have HGb := Lib.hid (Gb.of hg)
  clear hg
  go_enter Tryd.func34, Tryd.ntmps34
  go_wp2_with fail
  refine (detNew_any ⟨#[]⟩ _ (by decide)).mono ?_
  rintro e1 w1 ⟨⟨b, rfl, hb0, hdet⟩, hb1⟩
  have hd1 : Det w.heap.size w1 b none (newDS 0) := hdet
  have HD1 := Lib.hid hd1
  have HB1 := Lib.hid hb1
  clear hdet hd1 hb1
  go_wp2_with fail
  refine (do_any w.heap.size b none (newDS 0) 1 ⟨#[239, 187, 191, 97]⟩ w1 HD1.out (okNew 0 (by omega) (by omega)) (HG.out.below HB1.out) HGb.out (by decide)).mono ?_
  rintro e2 w2 ⟨⟨v2, rfl, ho2⟩, ⟨o2, hd2, hm2⟩, hk2⟩
  obtain ⟨p2, cap2, rfl⟩ := own_form ho2
  rw [show (doDS (newDS 0) 1 (⟨#[239, 187, 191, 97]⟩ : ByteArray).data.toList).2 = rp0 0 from rfl]
  have HD2 := Lib.hid hd2
  have HK2 := Lib.hid (hk2.below HD1.out.low (fun n e => by cases e) HB1.out.size)
  clear ho2 hd2 hk2 hm2
  simp only [rpV, rp0]
  go_wp2_with fail
  have hd2b := HD2.out.lt
  have ho2b := HD2.out.own_lt
  obtain ⟨d1, hd1e⟩ : ∃ x, (doDS (newDS 0) 1 (⟨#[239, 187, 191, 97]⟩ : ByteArray).data.toList).1 = x := ⟨_, rfl⟩
  have hok1 : OkD d1 := by rw [← hd1e]; exact (okNew 0 (by omega) (by omega)).doDS _ _
  have hr3 : (doDS d1 3 []).2 = ⟨0, (1, 1, true), [97]⟩ := by rw [← hd1e]; exact alive_two
  have hD2 : Det w.heap.size w2 b o2 d1 := by rw [← hd1e]; exact HD2.out
  have hD2a := hD2.alloc (.cells #[.int .i64 0, .int .i64 0, .int .i64 0, .bool false, .slice p2 0 cap2] 38)
  have hB2 : Below w.heap.size w w2 := HB1.out.trans HK2.out
  refine (do_any w.heap.size b o2 d1 3 ⟨#[]⟩ (w2.alloc (.cells #[.int .i64 0, .int .i64 0, .int .i64 0, .bool false, .slice p2 0 cap2] 38)) hD2a hok1 (HG.out.below (hB2.alloc hB2.size _)) HGb.out (by decide)).mono ?_
  rintro e3 w3 ⟨⟨v3, rfl, ho3⟩, ⟨o3, hd3, hm3⟩, hk3⟩
  rw [show (doDS d1 3 (⟨#[]⟩ : ByteArray).data.toList).2 = ⟨0, (1, 1, true), [97]⟩ from hr3] at ho3 ⊢
  obtain ⟨g, cap3, rfl, hgb, hgl⟩ := World.ownsRow.form ho3 (by decide)
  have hg0 : w3.cell? ⟨g, 0, none⟩ = some (.int .i64 97) := ho3.cellAt 0 (by decide)
  have hx3 : w3.heap[w2.heap.size]? = some (.cells #[.int .i64 0, .int .i64 0, .int .i64 0, .bool false, .slice p2 0 cap2] 38 (0, 0)) := (hk3.block _ (by simp) (by omega) (fun e => by have := (ho2b _ e.symm).2; omega)).trans (heap_alloc_new w2 _)
  have fx : ∀ j, w3.cell? ⟨w2.heap.size, j, none⟩ = (#[.int .i64 0, .int .i64 0, .int .i64 0, .bool false, .slice p2 0 cap2] : Array Value)[j]? := fun j => cell_of_row w3 _ j _ _ _ hx3
  have fx0 : w3.cell? ⟨w2.heap.size, 0, none⟩ = some (.int .i64 0) := fx 0
  clear fx
  have hw23 : w2.heap.size < w3.heap.size := (Array.getElem?_eq_some_iff.1 hx3).1
  have HB3 := Lib.hid (hB2.alloc hB2.size (.cells #[.int .i64 0, .int .i64 0, .int .i64 0, .bool false, .slice p2 0 cap2] 38) |>.trans (hk3.below hD2a.low (fun n e => (hD2a.own_lt n e).1) (by simp; have := hB2.size; omega)))
  have hz3 := HB3.out.size
  clear hx3 hk3 hd3 hm3 ho3 hD2 hD2a hB2 ho2b hd2b hr3 hd1e
  simp only [rpV]
  go_wp2_with fail
  go_ret
  exact ⟨rfl, (HB3.out.alloc hz3 _)⟩

set_option maxRecDepth 100000 in
set_option maxHeartbeats 4000000 in
theorem detectJudges_walk (h : Int) (s : ByteArray) (e : Int) (w : World) (hs : s.size ≤ maxLen) (hg : Gl w) (hmx : Mx w) :
    Calls Tryd.prog 12 #[.int .i64 h, .string s, .int .i64 e] w fun x w' => x = .returned (.bool true) ∧ Below w.heap.size w w' := by
  have HG := Lib.hid hg
  have HMx := Lib.hid hmx
  unfold maxLen at hs
  clear hg hmx
  by_cases h4 : 4000 < s.size
  · have h42 : (4000 : Int) < (s.size : Int) := by omega
    go_enter Tryd.func12, Tryd.ntmps12
    go_wp2_with fail
    refine (detects_any _ HG.out).mono ?_
    rintro e1 w1 ⟨rfl, hb1⟩
    go_wp2_with fail
    go_ret
    exact ⟨rfl, hb1⟩
  have h42 : ¬ (4000 : Int) < (s.size : Int) := by omega
  have HL := Lib.hid (show s.size ≤ 4000 by omega)
  have hJ0 : ∃ j0 j1, jd h s.data.toList = (j0, j1) := ⟨_, _, rfl⟩
  obtain ⟨j0, j1, hj⟩ := hJ0
  have HJ : Hid (∀ W, Gl W → Calls Tryd.prog 35 #[.int .i64 h, .string s] W fun e w' => e = .returned (.agg #[.int .i64 j0, .int .i64 j1, .bool false]) ∧ Below W.heap.size W w') := Lib.hid fun W hW => by
    have := judge_any h s W HL.out hW
    rwa [hj] at this
  have HO : Hid (∀ W, Mx W → Calls Tryd.prog 36 #[.int .i64 h, .string s] W fun e w' => e = .returned (.agg #[.int .i64 j0, .int .i64 j1, .bool false]) ∧ Below W.heap.size W w') := Lib.hid fun W hW => by
    have := judgeOf_any h s W HL.out hW
    rwa [hj] at this
  clear hj
  have hjb0 : (j0 == j0) = true := by simp
  have hjb1 : (j1 == j1) = true := by simp
  have HT : Hid (∃ xs : List Int, xs.length ≤ 24002 ∧ (∀ W, Gl W → Calls Tryd.prog 38 #[.int .i64 e, .string s] W fun x w' => (∃ v, x = .returned v ∧ Ints w' v xs) ∧ Below W.heap.size W w') ∧ (∀ W, Calls Tryd.prog 39 #[.int .i64 e, .string s] W fun x w' => (∃ v, x = .returned v ∧ Ints w' v xs) ∧ Below W.heap.size W w')) := by
    by_cases he : 1 ≤ e ∧ e ≤ 6
    · refine Lib.hid ⟨tell e s.data.toList, ?_, fun W hW => ?_, fun W => ?_⟩
      · have h1 := tell_len e s.data.toList
        have h2 := HL.out
        have h3 : s.data.toList.length = s.size := by simp
        omega
      · refine (tell_any e s W he HL.out hW).mono ?_
        rintro x w' ⟨⟨v, rfl, ho⟩, hb⟩
        exact ⟨⟨v, rfl, own_ints ho⟩, hb⟩
      · refine (tellOf_any e s W he HL.out).mono ?_
        rintro x w' ⟨⟨v, rfl, ho⟩, hb⟩
        exact ⟨⟨v, rfl, own_ints ho⟩, hb⟩
    · refine Lib.hid ⟨[], by simp, fun W hW => ?_, fun W => ?_⟩
      · refine (tell_none e s W (by omega) hW).mono ?_
        rintro x w' ⟨rfl, hb⟩
        exact ⟨⟨_, rfl, Ints.nil _⟩, hb⟩
      · refine (tellOf_none e s W (by omega)).mono ?_
        rintro x w' ⟨rfl, hb⟩
        exact ⟨⟨_, rfl, Ints.nil _⟩, hb ▸ Below.refl _ _⟩
  obtain ⟨xs, hxl, hT1, hT2⟩ := HT.out
  have HT1 := Lib.hid hT1
  have HT2 := Lib.hid hT2
  have HXL := Lib.hid hxl
  clear HT hT1 hT2 hxl
  go_enter Tryd.func12, Tryd.ntmps12
  go_wp2_with fail
  refine (HJ.out _ HG.out).mono ?_
  rintro e1 w1 ⟨rfl, hb1⟩
  have HB1 := Lib.hid hb1
  clear hb1
  go_wp2_with fail
  refine (HO.out _ (HMx.out.below HB1.out)).mono ?_
  rintro e2 w2 ⟨rfl, hb2⟩
  have HB2 := Lib.hid (bthen HB1.out hb2)
  clear hb2
  go_wp2_with fail
  refine (HT1.out _ (HG.out.below HB2.out)).mono ?_
  rintro e3 w3 ⟨⟨v3, rfl, hi3⟩, hb3⟩
  have HB3 := Lib.hid (bthen HB2.out hb3)
  have HI3 := Lib.hid hi3
  clear hb3 hi3
  go_wp2_with fail
  refine (HT2.out _).mono ?_
  rintro e4 w4 ⟨⟨v4, rfl, hi4⟩, hb4⟩
  have HB4 := Lib.hid (bthen HB3.out hb4)
  have HI34 := Lib.hid (HI3.out.below hb4)
  have HI4 := Lib.hid hi4
  clear hb4 hi4
  go_wp2_with fail
  refine (refSame_any _ v3 v4 xs (by have := HXL.out; unfold maxLen; omega) HI34.out HI4.out).mono ?_
  rintro e5 w5 ⟨rfl, hb5⟩
  have HB5 := Lib.hid (bthen HB4.out hb5.below)
  clear hb5
  go_wp2_with fail
  refine (detects_any _ (HG.out.below HB5.out)).mono ?_
  rintro e6 w6 ⟨rfl, hb6⟩
  have HB6 := Lib.hid (bthen HB5.out hb6)
  clear hb6
  go_wp2_with fail
  go_ret
  exact ⟨rfl, HB6.out⟩
end Go.Proofs.YtefohnbmifblkaaDoor
