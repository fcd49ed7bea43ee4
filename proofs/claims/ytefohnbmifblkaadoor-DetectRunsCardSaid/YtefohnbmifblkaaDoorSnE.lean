/-
  The walk of sniff.value: it returns what the plain function value says, for every text shorter than 2^32 - 15 bytes; nothing that was there is changed.
-/
import Derived.Test.YtefohnbmifblkaaDoorSnC
import Derived.Test.YtefohnbmifblkaaDoorSnA
namespace Go.Proofs.YtefohnbmifblkaaDoor
open Go.RowKit

theorem indexAny_lt (c : List UInt8) : ∀ l : List UInt8, Lib.indexAny l c < l.length
  | [] => by show (-1 : Int) < 0; omega
  | b :: l => by
    have ih := indexAny_lt c l
    unfold Lib.indexAny
    rw [List.length_cons]
    split
    · omega
    · split
      · omega
      · omega
theorem value2_no {e s : List UInt8} {N : Int} (h : Lib.indexAny s e = N) (hn : N < 0) : Pl.value2 e s = ([], decide (40 < s.length)) := by
  unfold Pl.value2
  rw [h, if_pos (.inl hn), decide_eq_false (show ¬ 40 < N by omega), Bool.false_or]
theorem value2_far {e s : List UInt8} {N : Int} (h : Lib.indexAny s e = N) (hn : 40 < N) : Pl.value2 e s = ([], true) := by
  unfold Pl.value2
  rw [h, if_pos (.inr hn), decide_eq_true hn, Bool.true_or]
theorem value2_yes {e s : List UInt8} {N : Int} (h : Lib.indexAny s e = N) (h0 : 0 ≤ N) (hn : N ≤ 40) : Pl.value2 e s = (s.take N.toNat, true) := by
  unfold Pl.value2
  rw [h, if_neg (by omega)]
theorem extract_front (s : ByteArray) (n : Nat) : s.extract 0 n = ⟨(s.data.toList.take n).toArray⟩ := by
  have h := Lib.extract_data s 0 n
  rw [List.drop_zero, Nat.sub_zero] at h
  rw [← h]
theorem extract_back (s : ByteArray) (n : Nat) : s.extract n s.size = ⟨(s.data.toList.drop n).toArray⟩ := by
  have h := Lib.extract_to_end s n
  rw [← h]
theorem ret_value {a b : List UInt8} {x y : Bool} (h : a = b) (k : x = y) : Ending.returned (.tuple #[.string ⟨a.toArray⟩, .bool x]) = .returned (.tuple #[.string ⟨b.toArray⟩, .bool y]) := by rw [h, k]
theorem ret_value' {s : ByteArray} {b : List UInt8} {x y : Bool} (h : s = ⟨b.toArray⟩) (k : x = y) : Ending.returned (.tuple #[.string s, .bool x]) = .returned (.tuple #[.string ⟨b.toArray⟩, .bool y]) := by rw [h, k]

set_option maxHeartbeats 1000000 in
theorem value_plain_no (s : ByteArray) (w : World) (hs : s.size < 4294967281) (hz : 0 < s.size) (h34 : s[0]'hz ≠ 34) (h39 : s[0]'hz ≠ 39) (N : Int) (hN : Lib.indexAny s.data.toList Pl.ends = N) (h0 : N < 0) :
    Calls Tryd.prog 43 #[.string s] w fun e w' => e = .returned (.tuple #[.string ⟨#[]⟩, .bool (decide (40 < s.data.toList.length))]) ∧ Below w.heap.size w w' := by
  have hN2 : N < (s.size : Int) := by
    have := indexAny_lt Pl.ends s.data.toList
    rw [hN] at this
    simpa using this
  have HN := Lib.hid hN
  clear hN
  have hne := Lib.hid h34
  have hne2 := Lib.hid h39
  have a34 : (((s[0]'hz).toNat : Int) == 34) = false := beq_eq_false_iff_ne.2 (fun e => hne.out (UInt8.toNat_inj.1 (show (s[0]'hz).toNat = 34 by omega)))
  have a39 : (((s[0]'hz).toNat : Int) == 39) = false := beq_eq_false_iff_ne.2 (fun e => hne2.out (UInt8.toNat_inj.1 (show (s[0]'hz).toNat = 39 by omega)))
  clear h34 h39
  have he : s.toList.isEmpty = false := by
    rw [Lib.toList_data]
    cases hl : s.data.toList with
    | nil => have := Lib.size_eq s; rw [hl, List.length_nil] at this; omega
    | cons _ _ => rfl
  go_enter Tryd.func43, Tryd.ntmps43
  go_wp2_with (go_at_call 58; refine (indexAny_ends _ _ hs).mono ?_; rintro e w1 ⟨rfl, hb1⟩; rw [HN.out])
  go_ret2
  exact ⟨ret_value rfl (by rw [decide_eq_false (show ¬ 40 < N by omega), Bool.false_or, decide_eq_decide]; simp; omega), hb1⟩

set_option maxHeartbeats 1000000 in
theorem value_plain_far (s : ByteArray) (w : World) (hs : s.size < 4294967281) (hz : 0 < s.size) (h34 : s[0]'hz ≠ 34) (h39 : s[0]'hz ≠ 39) (N : Int) (hN : Lib.indexAny s.data.toList Pl.ends = N) (h0 : 40 < N) :
    Calls Tryd.prog 43 #[.string s] w fun e w' => e = .returned (.tuple #[.string ⟨#[]⟩, .bool true]) ∧ Below w.heap.size w w' := by
  have hN2 : N < (s.size : Int) := by
    have := indexAny_lt Pl.ends s.data.toList
    rw [hN] at this
    simpa using this
  have HN := Lib.hid hN
  clear hN
  have hne := Lib.hid h34
  have hne2 := Lib.hid h39
  have a34 : (((s[0]'hz).toNat : Int) == 34) = false := beq_eq_false_iff_ne.2 (fun e => hne.out (UInt8.toNat_inj.1 (show (s[0]'hz).toNat = 34 by omega)))
  have a39 : (((s[0]'hz).toNat : Int) == 39) = false := beq_eq_false_iff_ne.2 (fun e => hne2.out (UInt8.toNat_inj.1 (show (s[0]'hz).toNat = 39 by omega)))
  clear h34 h39
  have he : s.toList.isEmpty = false := by
    rw [Lib.toList_data]
    cases hl : s.data.toList with
    | nil => have := Lib.size_eq s; rw [hl, List.length_nil] at this; omega
    | cons _ _ => rfl
  go_enter Tryd.func43, Tryd.ntmps43
  go_wp2_with (go_at_call 58; refine (indexAny_ends _ _ hs).mono ?_; rintro e w1 ⟨rfl, hb1⟩; rw [HN.out])
  go_ret2
  exact ⟨rfl, hb1⟩

set_option maxHeartbeats 1000000 in
theorem value_plain_yes (s : ByteArray) (w : World) (hs : s.size < 4294967281) (hz : 0 < s.size) (h34 : s[0]'hz ≠ 34) (h39 : s[0]'hz ≠ 39) (N : Int) (hN : Lib.indexAny s.data.toList Pl.ends = N) (h0 : 0 ≤ N) (h4 : N ≤ 40) :
    Calls Tryd.prog 43 #[.string s] w fun e w' => e = .returned (.tuple #[.string ⟨(s.data.toList.take N.toNat).toArray⟩, .bool true]) ∧ Below w.heap.size w w' := by
  have hN2 : N < (s.size : Int) := by
    have := indexAny_lt Pl.ends s.data.toList
    rw [hN] at this
    simpa using this
  have HN := Lib.hid hN
  clear hN
  have hne := Lib.hid h34
  have hne2 := Lib.hid h39
  have a34 : (((s[0]'hz).toNat : Int) == 34) = false := beq_eq_false_iff_ne.2 (fun e => hne.out (UInt8.toNat_inj.1 (show (s[0]'hz).toNat = 34 by omega)))
  have a39 : (((s[0]'hz).toNat : Int) == 39) = false := beq_eq_false_iff_ne.2 (fun e => hne2.out (UInt8.toNat_inj.1 (show (s[0]'hz).toNat = 39 by omega)))
  clear h34 h39
  have he : s.toList.isEmpty = false := by
    rw [Lib.toList_data]
    cases hl : s.data.toList with
    | nil => have := Lib.size_eq s; rw [hl, List.length_nil] at this; omega
    | cons _ _ => rfl
  go_enter Tryd.func43, Tryd.ntmps43
  go_wp2_with (go_at_call 58; refine (indexAny_ends _ _ hs).mono ?_; rintro e w1 ⟨rfl, hb1⟩; rw [HN.out])
  go_ret2
  exact ⟨ret_value' (extract_front _ _) rfl, hb1⟩

set_option maxHeartbeats 1000000 in
theorem value_q34_no (s : ByteArray) (w : World) (hs : s.size < 4294967281) (hz : 0 < s.size) (hq : (s[0]'hz).toNat = 34) (N : Int) (hN : Lib.indexAny (s.data.toList.drop 1) [s[0]'hz] = N) (h0 : N < 0) :
    Calls Tryd.prog 43 #[.string s] w fun e w' => e = .returned (.tuple #[.string ⟨#[]⟩, .bool (decide (40 < (s.data.toList.drop 1).length))]) ∧ Below w.heap.size w w' := by
  have hN2 : N < (s.size : Int) - 1 := by
    have := indexAny_lt [s[0]'hz] (s.data.toList.drop 1)
    rw [hN] at this
    simp at this
    omega
  have HN := Lib.hid hN
  clear hN
  have he : s.toList.isEmpty = false := by
    rw [Lib.toList_data]
    cases hl : s.data.toList with
    | nil => have := Lib.size_eq s; rw [hl, List.length_nil] at this; omega
    | cons _ _ => rfl
  have H1 := Lib.hid (show s.extract 0 1 = ⟨#[s[0]'hz]⟩ by
    rw [extract_front]
    have : s.data.toList.take 1 = [s[0]'hz] := by
      rw [List.take_one, List.head?_eq_getElem?, Lib.data_getElem? s 0 hz]
      rfl
    rw [this])
  have H2 := Lib.hid (extract_back s 1)
  have H3 := Lib.hid (show (s[0]'hz).toNat < 128 by omega)
  have hz1 : (1 : Int) ≤ (s.size : Int) := by omega
  have hsl : (s.size - 1 : Int) = ((s.data.toList.drop 1).length : Int) := by simp; omega
  have HSL := Lib.hid hsl
  clear hsl
  have a34 : (((s[0]'hz).toNat : Int) == 34) = true := beq_iff_eq.2 (by omega)
  clear hq
  go_enter Tryd.func43, Tryd.ntmps43
  go_wp2_with fail
  go_quiet (fail)
  go_wp2_with fail
  rw [H1.out, H2.out]
  refine (indexAny_byte _ _ _ H3.out).mono ?_
  rintro e w1 ⟨rfl, hb0⟩
  have hb1 : Below w.heap.size w w1 := (below_drewN (Below.refl w.heap.size w) nq).trans hb0
  rw [HN.out]
  go_wp2
  go_ret2
  exact ⟨ret_value rfl (by rw [decide_eq_false (show ¬ 40 < N by omega), Bool.false_or, decide_eq_decide]; simp; omega), hb1⟩

set_option maxHeartbeats 1000000 in
theorem value_q34_far (s : ByteArray) (w : World) (hs : s.size < 4294967281) (hz : 0 < s.size) (hq : (s[0]'hz).toNat = 34) (N : Int) (hN : Lib.indexAny (s.data.toList.drop 1) [s[0]'hz] = N) (h0 : 40 < N) :
    Calls Tryd.prog 43 #[.string s] w fun e w' => e = .returned (.tuple #[.string ⟨#[]⟩, .bool true]) ∧ Below w.heap.size w w' := by
  have hN2 : N < (s.size : Int) - 1 := by
    have := indexAny_lt [s[0]'hz] (s.data.toList.drop 1)
    rw [hN] at this
    simp at this
    omega
  have HN := Lib.hid hN
  clear hN
  have he : s.toList.isEmpty = false := by
    rw [Lib.toList_data]
    cases hl : s.data.toList with
    | nil => have := Lib.size_eq s; rw [hl, List.length_nil] at this; omega
    | cons _ _ => rfl
  have H1 := Lib.hid (show s.extract 0 1 = ⟨#[s[0]'hz]⟩ by
    rw [extract_front]
    have : s.data.toList.take 1 = [s[0]'hz] := by
      rw [List.take_one, List.head?_eq_getElem?, Lib.data_getElem? s 0 hz]
      rfl
    rw [this])
  have H2 := Lib.hid (extract_back s 1)
  have H3 := Lib.hid (show (s[0]'hz).toNat < 128 by omega)
  have hz1 : (1 : Int) ≤ (s.size : Int) := by omega
  have hsl : (s.size - 1 : Int) = ((s.data.toList.drop 1).length : Int) := by simp; omega
  have HSL := Lib.hid hsl
  clear hsl
  have a34 : (((s[0]'hz).toNat : Int) == 34) = true := beq_iff_eq.2 (by omega)
  clear hq
  go_enter Tryd.func43, Tryd.ntmps43
  go_wp2_with fail
  go_quiet (fail)
  go_wp2_with fail
  rw [H1.out, H2.out]
  refine (indexAny_byte _ _ _ H3.out).mono ?_
  rintro e w1 ⟨rfl, hb0⟩
  have hb1 : Below w.heap.size w w1 := (below_drewN (Below.refl w.heap.size w) nq).trans hb0
  rw [HN.out]
  go_wp2
  go_ret2
  exact ⟨rfl, hb1⟩

set_option maxHeartbeats 1000000 in
theorem value_q34_yes (s : ByteArray) (w : World) (hs : s.size < 4294967281) (hz : 0 < s.size) (hq : (s[0]'hz).toNat = 34) (N : Int) (hN : Lib.indexAny (s.data.toList.drop 1) [s[0]'hz] = N) (h0 : 0 ≤ N) (h4 : N ≤ 40) :
    Calls Tryd.prog 43 #[.string s] w fun e w' => e = .returned (.tuple #[.string ⟨((s.data.toList.drop 1).take N.toNat).toArray⟩, .bool true]) ∧ Below w.heap.size w w' := by
  have hN2 : N < (s.size : Int) - 1 := by
    have := indexAny_lt [s[0]'hz] (s.data.toList.drop 1)
    rw [hN] at this
    simp at this
    omega
  have HN := Lib.hid hN
  clear hN
  have he : s.toList.isEmpty = false := by
    rw [Lib.toList_data]
    cases hl : s.data.toList with
    | nil => have := Lib.size_eq s; rw [hl, List.length_nil] at this; omega
    | cons _ _ => rfl
  have H1 := Lib.hid (show s.extract 0 1 = ⟨#[s[0]'hz]⟩ by
    rw [extract_front]
    have : s.data.toList.take 1 = [s[0]'hz] := by
      rw [List.take_one, List.head?_eq_getElem?, Lib.data_getElem? s 0 hz]
      rfl
    rw [this])
  have H2 := Lib.hid (extract_back s 1)
  have H3 := Lib.hid (show (s[0]'hz).toNat < 128 by omega)
  have hz1 : (1 : Int) ≤ (s.size : Int) := by omega
  have hsl : (s.size - 1 : Int) = ((s.data.toList.drop 1).length : Int) := by simp; omega
  have HSL := Lib.hid hsl
  clear hsl
  have a34 : (((s[0]'hz).toNat : Int) == 34) = true := beq_iff_eq.2 (by omega)
  clear hq
  go_enter Tryd.func43, Tryd.ntmps43
  go_wp2_with fail
  go_quiet (fail)
  go_wp2_with fail
  rw [H1.out, H2.out]
  refine (indexAny_byte _ _ _ H3.out).mono ?_
  rintro e w1 ⟨rfl, hb0⟩
  have hb1 : Below w.heap.size w w1 := (below_drewN (Below.refl w.heap.size w) nq).trans hb0
  rw [HN.out]
  go_wp2
  go_ret2
  exact ⟨ret_value' (by rw [extract_front]; simp) rfl, hb1⟩

set_option maxHeartbeats 1000000 in
theorem value_q39_no (s : ByteArray) (w : World) (hs : s.size < 4294967281) (hz : 0 < s.size) (hq : (s[0]'hz).toNat = 39) (N : Int) (hN : Lib.indexAny (s.data.toList.drop 1) [s[0]'hz] = N) (h0 : N < 0) :
    Calls Tryd.prog 43 #[.string s] w fun e w' => e = .returned (.tuple #[.string ⟨#[]⟩, .bool (decide (40 < (s.data.toList.drop 1).length))]) ∧ Below w.heap.size w w' := by
  have hN2 : N < (s.size : Int) - 1 := by
    have := indexAny_lt [s[0]'hz] (s.data.toList.drop 1)
    rw [hN] at this
    simp at this
    omega
  have HN := Lib.hid hN
  clear hN
  have he : s.toList.isEmpty = false := by
    rw [Lib.toList_data]
    cases hl : s.data.toList with
    | nil => have := Lib.size_eq s; rw [hl, List.length_nil] at this; omega
    | cons _ _ => rfl
  have H1 := Lib.hid (show s.extract 0 1 = ⟨#[s[0]'hz]⟩ by
    rw [extract_front]
    have : s.data.toList.take 1 = [s[0]'hz] := by
      rw [List.take_one, List.head?_eq_getElem?, Lib.data_getElem? s 0 hz]
      rfl
    rw [this])
  have H2 := Lib.hid (extract_back s 1)
  have H3 := Lib.hid (show (s[0]'hz).toNat < 128 by omega)
  have hz1 : (1 : Int) ≤ (s.size : Int) := by omega
  have hsl : (s.size - 1 : Int) = ((s.data.toList.drop 1).length : Int) := by simp; omega
  have HSL := Lib.hid hsl
  clear hsl
  have a39 : (((s[0]'hz).toNat : Int) == 39) = true := beq_iff_eq.2 (by omega)
  have a34 : (((s[0]'hz).toNat : Int) == 34) = false := beq_eq_false_iff_ne.2 (by omega)
  clear hq
  go_enter Tryd.func43, Tryd.ntmps43
  go_wp2_with fail
  go_quiet (fail)
  go_wp2_with fail
  rw [H1.out, H2.out]
  refine (indexAny_byte _ _ _ H3.out).mono ?_
  rintro e w1 ⟨rfl, hb0⟩
  have hb1 : Below w.heap.size w w1 := (below_drewN (Below.refl w.heap.size w) nq).trans hb0
  rw [HN.out]
  go_wp2
  go_ret2
  exact ⟨ret_value rfl (by rw [decide_eq_false (show ¬ 40 < N by omega), Bool.false_or, decide_eq_decide]; simp; omega), hb1⟩

set_option maxHeartbeats 1000000 in
theorem value_q39_far (s : ByteArray) (w : World) (hs : s.size < 4294967281) (hz : 0 < s.size) (hq : (s[0]'hz).toNat = 39) (N : Int) (hN : Lib.indexAny (s.data.toList.drop 1) [s[0]'hz] = N) (h0 : 40 < N) :
    Calls Tryd.prog 43 #[.string s] w fun e w' => e = .returned (.tuple #[.string ⟨#[]⟩, .bool true]) ∧ Below w.heap.size w w' := by
  have hN2 : N < (s.size : Int) - 1 := by
    have := indexAny_lt [s[0]'hz] (s.data.toList.drop 1)
    rw [hN] at this
    simp at this
    omega
  have HN := Lib.hid hN
  clear hN
  have he : s.toList.isEmpty = false := by
    rw [Lib.toList_data]
    cases hl : s.data.toList with
    | nil => have := Lib.size_eq s; rw [hl, List.length_nil] at this; omega
    | cons _ _ => rfl
  have H1 := Lib.hid (show s.extract 0 1 = ⟨#[s[0]'hz]⟩ by
    rw [extract_front]
    have : s.data.toList.take 1 = [s[0]'hz] := by
      rw [List.take_one, List.head?_eq_getElem?, Lib.data_getElem? s 0 hz]
      rfl
    rw [this])
  have H2 := Lib.hid (extract_back s 1)
  have H3 := Lib.hid (show (s[0]'hz).toNat < 128 by omega)
  have hz1 : (1 : Int) ≤ (s.size : Int) := by omega
  have hsl : (s.size - 1 : Int) = ((s.data.toList.drop 1).length : Int) := by simp; omega
  have HSL := Lib.hid hsl
  clear hsl
  have a39 : (((s[0]'hz).toNat : Int) == 39) = true := beq_iff_eq.2 (by omega)
  have a34 : (((s[0]'hz).toNat : Int) == 34) = false := beq_eq_false_iff_ne.2 (by omega)
  clear hq
  go_enter Tryd.func43, Tryd.ntmps43
  go_wp2_with fail
  go_quiet (fail)
  go_wp2_with fail
  rw [H1.out, H2.out]
  refine (indexAny_byte _ _ _ H3.out).mono ?_
  rintro e w1 ⟨rfl, hb0⟩
  have hb1 : Below w.heap.size w w1 := (below_drewN (Below.refl w.heap.size w) nq).trans hb0
  rw [HN.out]
  go_wp2
  go_ret2
  exact ⟨rfl, hb1⟩

set_option maxHeartbeats 1000000 in
theorem value_q39_yes (s : ByteArray) (w : World) (hs : s.size < 4294967281) (hz : 0 < s.size) (hq : (s[0]'hz).toNat = 39) (N : Int) (hN : Lib.indexAny (s.data.toList.drop 1) [s[0]'hz] = N) (h0 : 0 ≤ N) (h4 : N ≤ 40) :
    Calls Tryd.prog 43 #[.string s] w fun e w' => e = .returned (.tuple #[.string ⟨((s.data.toList.drop 1).take N.toNat).toArray⟩, .bool true]) ∧ Below w.heap.size w w' := by
  have hN2 : N < (s.size : Int) - 1 := by
    have := indexAny_lt [s[0]'hz] (s.data.toList.drop 1)
    rw [hN] at this
    simp at this
    omega
  have HN := Lib.hid hN
  clear hN
  have he : s.toList.isEmpty = false := by
    rw [Lib.toList_data]
    cases hl : s.data.toList with
    | nil => have := Lib.size_eq s; rw [hl, List.length_nil] at this; omega
    | cons _ _ => rfl
  have H1 := Lib.hid (show s.extract 0 1 = ⟨#[s[0]'hz]⟩ by
    rw [extract_front]
    have : s.data.toList.take 1 = [s[0]'hz] := by
      rw [List.take_one, List.head?_eq_getElem?, Lib.data_getElem? s 0 hz]
      rfl
    rw [this])
  have H2 := Lib.hid (extract_back s 1)
  have H3 := Lib.hid (show (s[0]'hz).toNat < 128 by omega)
  have hz1 : (1 : Int) ≤ (s.size : Int) := by omega
  have hsl : (s.size - 1 : Int) = ((s.data.toList.drop 1).length : Int) := by simp; omega
  have HSL := Lib.hid hsl
  clear hsl
  have a39 : (((s[0]'hz).toNat : Int) == 39) = true := beq_iff_eq.2 (by omega)
  have a34 : (((s[0]'hz).toNat : Int) == 34) = false := beq_eq_false_iff_ne.2 (by omega)
  clear hq
  go_enter Tryd.func43, Tryd.ntmps43
  go_wp2_with fail
  go_quiet (fail)
  go_wp2_with fail
  rw [H1.out, H2.out]
  refine (indexAny_byte _ _ _ H3.out).mono ?_
  rintro e w1 ⟨rfl, hb0⟩
  have hb1 : Below w.heap.size w w1 := (below_drewN (Below.refl w.heap.size w) nq).trans hb0
  rw [HN.out]
  go_wp2
  go_ret2
  exact ⟨ret_value' (by rw [extract_front]; simp) rfl, hb1⟩

set_option maxHeartbeats 1000000 in
theorem value_empty (w : World) :
    Calls Tryd.prog 43 #[.string ⟨#[]⟩] w fun e w' => e = .returned (.tuple #[.string ⟨#[]⟩, .bool false]) ∧ Below w.heap.size w w' := by
  go_enter Tryd.func43, Tryd.ntmps43
  go_wp2_with (go_at_call 58; refine (indexAny_ends _ _ (by decide)).mono ?_; rintro e w1 ⟨rfl, hb1⟩)
  go_ret2
  exact ⟨rfl, hb1⟩

theorem value_any (s : ByteArray) (w : World) (hs : s.size < 4294967281) :
    Calls Tryd.prog 43 #[.string s] w fun e w' => e = .returned (.tuple #[.string ⟨(Pl.value s.data.toList).1.toArray⟩, .bool (Pl.value s.data.toList).2]) ∧ Below w.heap.size w w' := by
  rcases Nat.eq_zero_or_pos s.size with h0 | hz
  · have hs0 : s = ⟨#[]⟩ := by
      rcases s with ⟨⟨l⟩⟩
      have : l.length = 0 := h0
      rw [List.eq_nil_of_length_eq_zero this]
    subst hs0
    exact value_empty w
  · have hd : s.data.toList = s[0]'hz :: s.data.toList.drop 1 := drop_data s 0 hz
    have hcases : ∀ N : Int, N < 0 ∨ 40 < N ∨ (0 ≤ N ∧ N ≤ 40) := fun N => by omega
    by_cases h34 : (s[0]'hz) = 34
    · have hv : Pl.value s.data.toList = Pl.value2 [s[0]'hz] (s.data.toList.drop 1) := by
        rw [hd]
        show (if _ then _ else _) = _
        rw [if_pos (.inl h34)]
        rfl
      have hq : (s[0]'hz).toNat = 34 := by rw [h34]; rfl
      obtain ⟨N, hN⟩ : ∃ N, Lib.indexAny (s.data.toList.drop 1) [s[0]'hz] = N := ⟨_, rfl⟩
      rw [hv]
      rcases hcases N with h | h | ⟨h, h'⟩
      · rw [value2_no hN h]; exact value_q34_no s w hs hz hq N hN h
      · rw [value2_far hN h]; exact value_q34_far s w hs hz hq N hN h
      · rw [value2_yes hN h h']; exact value_q34_yes s w hs hz hq N hN h h'
    · by_cases h39 : (s[0]'hz) = 39
      · have hv : Pl.value s.data.toList = Pl.value2 [s[0]'hz] (s.data.toList.drop 1) := by
          rw [hd]
          show (if _ then _ else _) = _
          rw [if_pos (.inr h39)]
          rfl
        have hq : (s[0]'hz).toNat = 39 := by rw [h39]; rfl
        obtain ⟨N, hN⟩ : ∃ N, Lib.indexAny (s.data.toList.drop 1) [s[0]'hz] = N := ⟨_, rfl⟩
        rw [hv]
        rcases hcases N with h | h | ⟨h, h'⟩
        · rw [value2_no hN h]; exact value_q39_no s w hs hz hq N hN h
        · rw [value2_far hN h]; exact value_q39_far s w hs hz hq N hN h
        · rw [value2_yes hN h h']; exact value_q39_yes s w hs hz hq N hN h h'
      · have hv : Pl.value s.data.toList = Pl.value2 Pl.ends s.data.toList := by
          rw [hd]
          show (if _ then _ else _) = _
          rw [if_neg (fun h => h.elim h34 h39)]
        obtain ⟨N, hN⟩ : ∃ N, Lib.indexAny s.data.toList Pl.ends = N := ⟨_, rfl⟩
        rw [hv]
        rcases hcases N with h | h | ⟨h, h'⟩
        · rw [value2_no hN h]; exact value_plain_no s w hs hz h34 h39 N hN h
        · rw [value2_far hN h]; exact value_plain_far s w hs hz h34 h39 N hN h
        · rw [value2_yes hN h h']; exact value_plain_yes s w hs hz h34 h39 N hN h h'
end Go.Proofs.YtefohnbmifblkaaDoor
