/-
  The walk of the references' LabelOf: it returns what the plain function label says, for every text, in every world in which the library's one variable holds a number.
-/
import Derived.Test.YtefohnbmifblkaaDoorRfA
import Derived.Test.YtefohnbmifblkaaDoorPlA
import Derived.Test.YtefohnbmifblkaaDoorSnF
namespace Go.Proofs.YtefohnbmifblkaaDoor
open Go.RowKit

theorem labelIn_v {B : Bool} {b : UInt8} {r : List UInt8} (h : Pl.atK Pl.key (b :: r) = (true, false)) {v : List UInt8} {d : Bool} (hv : Pl.value ((b :: r).drop 8) = (v, d)) :
    Pl.labelIn B (b :: r) = if d = false then (0, B) else if Pl.find v = 0 then Pl.labelIn B r else if 5 ≤ Pl.find v then (1, true) else (Pl.find v, true) := by
  cases d with
  | false => rw [labelIn_open h hv, if_pos rfl]
  | true =>
    rw [if_neg (by simp)]
    have hr := Pl.find_range v
    by_cases h0 : Pl.find v = 0
    · rw [if_pos h0, labelIn_none h hv h0]
    · rw [if_neg h0]
      by_cases h5 : 5 ≤ Pl.find v
      · rw [if_pos h5, labelIn_two h hv (by omega)]
      · rw [if_neg h5, labelIn_some h hv rfl h0 (by omega) (by omega)]

/-- strings.IndexByte, at a byte that is there, or not. -/
theorem ib_no (E : ByteArray) (x : UInt8) (w : World) (h : E.data.toList.contains x = false) :
    Calls Tryd.prog 46 #[.string E, .int .u8 x.toNat] w fun e w' => (∃ n : Int, n < 0 ∧ e = .returned (.int .i64 n)) ∧ w = w' := by
  refine (Tryd.strings_IndexByte E x.toNat w).mono ?_
  rintro e w' ⟨rfl, hw⟩
  refine ⟨⟨_, ?_, rfl⟩, hw.symm⟩
  rw [show ((x.toNat : Int)).toNat.toUInt8 = x by simp]
  have h1 := Lib.contains_iff_indexByte E.data.toList x
  rw [h] at h1
  have := of_decide_eq_false h1.symm
  omega
theorem ib_yes (E : ByteArray) (x : UInt8) (w : World) (h : E.data.toList.contains x = true) :
    Calls Tryd.prog 46 #[.string E, .int .u8 x.toNat] w fun e w' => (∃ n : Int, 0 ≤ n ∧ e = .returned (.int .i64 n)) ∧ w = w' := by
  refine (Tryd.strings_IndexByte E x.toNat w).mono ?_
  rintro e w' ⟨rfl, hw⟩
  refine ⟨⟨_, ?_, rfl⟩, hw.symm⟩
  rw [show ((x.toNat : Int)).toNat.toUInt8 = x by simp]
  have h1 := Lib.contains_iff_indexByte E.data.toList x
  rw [h] at h1
  exact of_decide_eq_true h1.symm
theorem hasKey_any (R : ByteArray) (w : World) :
    Calls Tryd.prog 45 #[.string ⟨#[99, 104, 97, 114, 115, 101, 116, 61]⟩, .string R] w fun e w' => e = .returned (.bool (R.data.toList.isPrefixOf Pl.key)) ∧ w = w' :=
  (Tryd.strings_HasPrefix _ _ w).mono fun _ _ ⟨h1, h2⟩ => ⟨h1, h2.symm⟩
theorem BRow.at_back {w : World} {g k : Nat} {l : List UInt8} (h : BRow w g l) : ∀ j (hj : j < (l.drop k).length), w.cell? ((⟨g, k, none⟩ : Addr).add j) = some (.int .u8 ((l.drop k)[j].toNat : Int)) := by
  intro j hj
  have e1 : (⟨g, k, none⟩ : Addr).add j = ⟨g, k + j, none⟩ := by unfold Addr.add; split <;> simp_all
  rw [e1]
  have hl : k + j < l.length := by simp at hj; omega
  have := (h.at_ (k + j) hl).1
  rw [this]
  simp
theorem front_d (s : ByteArray) (n : Nat) : (s.extract 0 n).data.toList = s.data.toList.take n := by
  rw [Lib.extract_data, List.drop_zero, Nat.sub_zero]
theorem conv_tail {P : Program} {src dst e : TypeId} (hs : P.underlying src = some (.slice e)) (he : P.underlying e = some (.int .u8)) (hd : P.underlying dst = some .string) {w : World} {g k n cap : Nat} {l : List UInt8}
    (h : BRow w g l) (hn : n = (l.drop k).length) : (convert src dst (.slice (some ⟨g, k, none⟩) n cap)).run P w = .ok (.string ⟨(l.drop k).toArray⟩) w := by
  subst hn
  exact run_convert_bytes_back w src dst e ⟨g, k, none⟩ cap (l.drop k) hs he hd h.at_back

set_option maxRecDepth 100000 in
set_option maxHeartbeats 8000000 in
theorem labelOf_long (s : ByteArray) (w : World) (hs : s.size ≤ maxLen) (h256 : 256 ≤ s.size) (hmx : Mx w) :
    Calls Tryd.prog 20 #[.string s] w fun e w' => e = .returned (.tuple #[.int .i64 (Pl.label s.data.toList).1, .bool (Pl.label s.data.toList).2]) ∧ Below w.heap.size w w' := by
  unfold maxLen at hs
  obtain ⟨A, hA⟩ : ∃ A, Pl.label s.data.toList = A := ⟨_, rfl⟩
  have HA := Lib.hid (show Pl.labelIn true (s.extract 0 256).data.toList = A by
    rw [← hA]
    unfold Pl.label
    rw [Lib.extract_data, List.drop_zero, Nat.sub_zero, ← Lib.size_eq, decide_eq_true h256])
  rw [hA]
  clear hA
  have HMX := Lib.hid hmx
  clear hmx
  obtain ⟨T, hT⟩ : ∃ T, s.extract 0 256 = T := ⟨_, rfl⟩
  have hTs : T.size ≤ 256 := by rw [← hT]; simp; omega
  rw [hT] at HA
  obtain ⟨w0, hmk, hrow, hbw, hz2⟩ := make_bytes (P := Tryd.prog) Tryd.underlying69 infoByte T.size (by omega) w
  obtain ⟨g, hg⟩ : ∃ g, w.heap.size = g := ⟨_, rfl⟩
  rw [hg] at hmk hrow hbw hz2
  have Hg := Lib.hid hg
  clear hg
  have HT := Lib.hid hT
  clear hT
  have hTz : (s.extract 0 256).size = T.size := by rw [HT.out]
  have hB : decide ((256 : Int) ≤ (s.size : Int)) = true := decide_eq_true (by omega)
  go_enter Tryd.func20, Tryd.ntmps20
  go_wp2_with fail
  rw [HT.out]
  clear hmk
  go_loopw [24] (fun i wr => Below g w wr ∧ ∃ k : Nat, k ≤ T.size ∧ i = .int .i64 k ∧ BRow wr g (fresh k T.data.toList)) (fun i _ => T.size - (intOf i).toNat)
  case atStart => exact ⟨hbw, 0, by omega, rfl, by rw [fresh_zero, ← Lib.size_eq]; exact hrow⟩
  case round =>
    obtain ⟨hb, k, hk, rfl, hr⟩ := hrel
    by_cases hlt : k < T.size
    · obtain ⟨x, hx⟩ : ∃ x, T[k]'hlt = x := ⟨_, rfl⟩
      have hlen : k < T.data.toList.length := by rw [← Lib.size_eq]; exact hlt
      have hx2 : T.data.toList[k] = x := by rw [← hx]; rfl
      have HS1 := Lib.hid (fresh_set k T.data.toList hlen)
      rw [hx2] at HS1
      have hfl : k < (fresh k T.data.toList).length := by rw [fresh_len _ _ (Nat.le_of_lt hlen)]; exact hlen
      obtain ⟨hcell, hfr⟩ := hr.at_ k hfl
      have hset := hr.set_ k x hfl
      clear hx2
      have hx256 : x.toNat < 256 := x.toNat_lt
      have hgle : g ≤ g := Nat.le_refl g
      by_cases h1 : 65 ≤ x.toNat
      · by_cases h2 : x.toNat ≤ 90
        · have HU := Lib.hid (show ((Pl.small x).toNat : Int) = (x.toNat : Int) + 32 by rw [Pl.small_up h1 h2]; omega)
          have hset2 := hset.set_ k (Pl.small x) (by rw [List.length_set]; exact hfl)
          rw [List.set_set, HS1.out, HU.out] at hset2
          have HH := Lib.hid hset2
          have HW := Lib.hid ((hb.setCell (p := ⟨g, k, none⟩) hgle (.int .u8 (x.toNat : Int))).setCell (p := ⟨g, k, none⟩) hgle (.int .u8 ((x.toNat : Int) + 32)))
          clear hset hset2
          go_wp2_with fail
          go_roundw
          case rel => exact ⟨HW.out, k + 1, by omega, by go_num, HH.out⟩
          case measure => simp [intOf]; omega
        · rw [Pl.small_no (by omega)] at HS1
          rw [HS1.out] at hset
          have HH := Lib.hid hset
          have HW := Lib.hid (hb.setCell (p := ⟨g, k, none⟩) hgle (.int .u8 (x.toNat : Int)))
          clear hset
          go_wp2_with fail
          go_roundw
          case rel => exact ⟨HW.out, k + 1, by omega, by go_num, HH.out⟩
          case measure => simp [intOf]; omega
      · rw [Pl.small_no (by omega)] at HS1
        rw [HS1.out] at hset
        have HH := Lib.hid hset
        have HW := Lib.hid (hb.setCell (p := ⟨g, k, none⟩) hgle (.int .u8 (x.toNat : Int)))
        clear hset
        go_wp2_with fail
        go_roundw
        case rel => exact ⟨HW.out, k + 1, by omega, by go_num, HH.out⟩
        case measure => simp [intOf]; omega
    · have hke : k = T.size := by omega
      subst hke
      rw [show fresh T.size T.data.toList = Pl.lower T.data.toList by rw [Lib.size_eq, fresh_all]] at hr
      have hMX := Lib.hid ((HMX.out.below (hb.mono (by rw [Hg.out]; exact Nat.le_refl _))))
      have HB := Lib.hid hb
      have HROW := Lib.hid hr
      clear hb hr hrow hbw hlt hk hz2
      go_wp2_with fail
      go_loopw [52] (fun i wi => Hid (Below g w wi) ∧ Hid (Mx wi) ∧ Hid (BRow wi g (Pl.lower T.data.toList)) ∧ ∃ k : Nat, k ≤ T.size ∧ i = .int .i64 k ∧ Hid (Pl.labelIn true (T.data.toList.drop k) = A)) (fun i _ => T.size - (intOf i).toNat)
      case atStart => exact ⟨HB, hMX, HROW, 0, by omega, rfl, HA⟩
      case round =>
        obtain ⟨HB, HM, HROW, k, hk, rfl, HK⟩ := hrel
        clear HA hMX
        by_cases hlt : k < T.size
        · have hd := drop_data T k hlt
          rw [hd] at HK
          obtain ⟨b, hb⟩ : ∃ b, T[k] = b := ⟨_, rfl⟩
          rw [hb] at hd HK
          clear hb
          have HD := Lib.hid hd
          clear hd
          obtain ⟨r, hr⟩ : ∃ r, T.data.toList.drop (k + 1) = r := ⟨_, rfl⟩
          rw [hr] at HK HD
          have HR := Lib.hid hr
          clear hr
          obtain ⟨R, hR⟩ : ∃ R, (Pl.lower T.data.toList).drop k = R := ⟨_, rfl⟩
          have HRL := Lib.hid (show R = Pl.lower (b :: r) by rw [← hR, ← HD.out]; simp [Pl.lower])
          have hRl : R.length = T.size - k := by rw [← hR]; simp [Pl.lower]
          have hconv := conv_tail (P := Tryd.prog) (cap := T.size - k) (n := T.size - k) Tryd.underlying69 Tryd.underlying5 Tryd.underlying9 (k := k) HROW.out (by rw [hR]; exact hRl.symm)
          rw [hR] at hconv
          clear hR
          have hLl := Lib.hid (show (b :: r).length = R.length by rw [HRL.out, Pl.lower_len])
          by_cases h8 : R.length < 8
          · obtain ⟨P, hP⟩ : ∃ P, R.isPrefixOf Pl.key = P := ⟨_, rfl⟩
            have HP := Lib.hid hP
            have HAT := Lib.hid (show Pl.atK Pl.key (b :: r) = if P = true then (false, true) else (false, false) by rw [Pl.atK_few (by rw [hLl.out]; exact h8), ← HRL.out, hP])
            clear hP
            cases P
            · go_wp2_with (go_at_call 45; refine (hasKey_any _ _).mono ?_; rintro e w1 ⟨rfl, hw⟩; subst hw; rw [show (⟨R.toArray⟩ : ByteArray).data.toList = R from rfl, HP.out])
              go_roundw
              case rel => exact ⟨HB, HM, HROW, k + 1, by omega, by go_num, by rw [HR.out, ← labelIn_not HAT.out]; exact HK⟩
              case measure => simp [intOf]; omega
            · go_wp2_with (go_at_call 45; refine (hasKey_any _ _).mono ?_; rintro e w1 ⟨rfl, hw⟩; subst hw; rw [show (⟨R.toArray⟩ : ByteArray).data.toList = R from rfl, HP.out])
              go_ret2
              exact ⟨ret_lab (by rw [← HK.out, labelIn_more (by simp) HAT.out]), by rw [Hg.out]; exact HB.out⟩
          · have HL8 := Lib.hid (show 8 ≤ (b :: r).length by rw [hLl.out]; omega)
            by_cases hkey : R.take 8 = Pl.key
            · have HAT := Lib.hid (show Pl.atK Pl.key (b :: r) = (true, false) by rw [Pl.atK_many HL8.out, ← HRL.out, if_pos hkey])
              have hbt : (((⟨R.toArray⟩ : ByteArray).extract 0 8).toList == [99, 104, 97, 114, 115, 101, 116, 61]) = true := by
                rw [Lib.toList_data, front_d]
                exact beq_iff_eq.2 hkey
              have hk8 : k + 8 ≤ T.size := by omega
              obtain ⟨V, hV⟩ : ∃ V, T.extract (k + 8) T.size = V := ⟨_, rfl⟩
              have hVd : V.data.toList = (b :: r).drop 8 := by rw [← hV, Lib.extract_to_end, ← HD.out, List.drop_drop]
              have hVs : V.size = T.size - (k + 8) := by rw [← hV]; simp
              have hV256 : V.size ≤ 256 := by rw [hVs]; omega
              clear hVs
              have HVD := Lib.hid hVd
              clear hVd hkey
              have HGW := Lib.hid ((lt_of_cell (HROW.out.at_ k (by rw [Pl.lower_len, ← Lib.size_eq]; exact hlt)).1 : g < wr.heap.size))
              rcases Nat.eq_zero_or_pos V.size with h0 | hz
              · have hV0 : V = ⟨#[]⟩ := by
                  rcases V with ⟨⟨l⟩⟩
                  have : l.length = 0 := h0
                  rw [List.eq_nil_of_length_eq_zero this]
                subst hV0
                obtain ⟨E, hE⟩ : ∃ E : ByteArray, (⟨#[32, 9, 10, 13, 59, 34, 39, 62]⟩ : ByteArray) = E := ⟨_, rfl⟩
                obtain ⟨U, hU⟩ : ∃ U : ByteArray, (⟨#[]⟩ : ByteArray) = U := ⟨_, rfl⟩
                have HFR := Lib.hid (show Pl.value ((b :: r).drop 8) = Pl.value2 E.data.toList U.data.toList by rw [← HVD.out, ← hE, ← hU]; rfl)
                have hU256 : U.size ≤ 256 := by rw [← hU]; decide
                clear h0
                go_wp2_with fail
                clear hE hU
                try rw [hV]
                clear hV
                go_loopw [11] (fun i wn => Hid (Below g w wn) ∧ Hid (Mx wn) ∧ Hid (BRow wn g (Pl.lower T.data.toList)) ∧ ∃ n : Nat, n ≤ U.size ∧ n ≤ 41 ∧ i = .int .i64 n ∧ Hid (Lib.NoAny U.data.toList E.data.toList n)) (fun i _ => U.size - (intOf i).toNat)
                case atStart => exact ⟨HB, HM, HROW, 0, by omega, by omega, rfl, Lib.hid (Lib.NoAny.zero _ _)⟩
                case round =>
                  clear HB HM HROW
                  obtain ⟨HB, HM, HROW, n, hn, hn41, rfl, HN⟩ := hrel
                  by_cases hn40 : n ≤ 40
                  · by_cases hlen : n < U.size
                    · obtain ⟨c, hc⟩ : ∃ c, U[n]'hlen = c := ⟨_, rfl⟩
                      have HX := Lib.hid (show U.data.toList[n]? = some c by rw [← hc]; exact Lib.data_getElem? U n hlen)
                      cases hin : E.data.toList.contains c
                      · have HIN := Lib.hid hin
                        clear hin
                        go_wp2_with (go_at_call 46; refine (ib_no E c _ HIN.out).mono ?_; rintro e w2 ⟨⟨m, hm, rfl⟩, hw⟩; subst hw)
                        go_roundw
                        case rel => first | exact ⟨HB, HM, HROW, n + 1, by omega, by omega, by go_num, Lib.hid (HN.out.succ HX.out HIN.out)⟩ | ((repeat apply Exists.intro); refine ⟨?_, rfl⟩; exact ⟨HB, HM, HROW, n + 1, by omega, by omega, by go_num, Lib.hid (HN.out.succ HX.out HIN.out)⟩)
                        case measure => simp [intOf]; omega
                      · have HIN := Lib.hid hin
                        clear hin
                        have HVAL := Lib.hid (show Pl.value ((b :: r).drop 8) = (U.data.toList.take n, true) by rw [HFR.out]; exact Pl.v2_hit HN.out HX.out HIN.out hn40)
                        have HLI := Lib.hid (labelIn_v (B := true) HAT.out HVAL.out)
                        obtain ⟨f, hf⟩ : ∃ f, Pl.find (U.data.toList.take n) = f := ⟨_, rfl⟩
                        have hfr := Pl.find_range (U.data.toList.take n)
                        rw [hf] at HLI hfr
                        have HF := Lib.hid (show Pl.find (U.extract 0 n).data.toList = f by rw [Lib.extract_data, List.drop_zero, Nat.sub_zero, hf])
                        clear hf
                        have hnl : ((n : Int) == (U.size : Int)) = false := beq_eq_false_iff_ne.2 (by omega)
                        have hsz : (U.extract 0 n).size ≤ 256 := by simp; omega
                        have hsz' := Lib.hid hsz
                        clear hsz
                        by_cases h5 : 5 ≤ f
                        · go_wp2_with (first
                            | (go_at_call 46; refine (ib_yes E c _ HIN.out).mono ?_; rintro e w2 ⟨⟨m, hm, rfl⟩, hw⟩; subst hw)
                            | (go_at_call 29; refine (refFind_any _ _ (Nat.le_trans hsz'.out (by decide)) HM.out).mono ?_; rintro e w3 ⟨rfl, hb3⟩; rw [HF.out]))
                          go_ret2
                          exact ⟨ret_lab (by rw [← HK.out, HLI.out, if_neg (by simp), if_neg (by omega), if_pos h5]), by rw [Hg.out]; exact HB.out.trans (hb3.mono (by have h1 := HB.out.size; have h2 := Hg.out; omega))⟩
                        · by_cases h0 : 0 < f
                          · go_wp2_with (first
                              | (go_at_call 46; refine (ib_yes E c _ HIN.out).mono ?_; rintro e w2 ⟨⟨m, hm, rfl⟩, hw⟩; subst hw)
                              | (go_at_call 29; refine (refFind_any _ _ (Nat.le_trans hsz'.out (by decide)) HM.out).mono ?_; rintro e w3 ⟨rfl, hb3⟩; rw [HF.out]))
                            go_ret2
                            exact ⟨ret_lab (by rw [← HK.out, HLI.out, if_neg (by simp), if_neg (by omega), if_neg (by omega)]), by rw [Hg.out]; exact HB.out.trans (hb3.mono (by have h1 := HB.out.size; have h2 := Hg.out; omega))⟩
                          · go_wp2_with (first
                              | (go_at_call 46; refine (ib_yes E c _ HIN.out).mono ?_; rintro e w2 ⟨⟨m, hm, rfl⟩, hw⟩; subst hw)
                              | (go_at_call 29; refine (refFind_any _ _ (Nat.le_trans hsz'.out (by decide)) HM.out).mono ?_; rintro e w3 ⟨rfl, hb3⟩; rw [HF.out]))
                            go_roundw
                            case rel =>
                              refine ⟨Lib.hid (HB.out.trans (hb3.mono (by have h1 := HB.out.size; have h2 := Hg.out; omega))), Lib.hid (HM.out.below hb3), Lib.hid (HROW.out.below hb3 (lt_of_cell (HROW.out.at_ k (by rw [Pl.lower_len, ← Lib.size_eq]; exact hlt)).1)), k + 1, by omega, by go_num, ?_⟩
                              rw [HR.out]
                              have := HK.out
                              rw [HLI.out, if_neg (by simp), if_pos (by omega)] at this
                              exact this
                            case measure => simp [intOf]; omega
                    · have hne : n = U.size := by omega
                      subst hne
                      have HVAL := Lib.hid (show Pl.value ((b :: r).drop 8) = ([], false) by rw [HFR.out]; exact Pl.v2_open (by rw [← Lib.size_eq]; exact HN.out) (by rw [← Lib.size_eq]; exact hn40))
                      have HLI := Lib.hid (labelIn_open (B := true) HAT.out HVAL.out)
                      have hnl : ((U.size : Int) == (U.size : Int)) = true := by simp
                      go_wp2_with fail
                      go_ret2
                      exact ⟨ret_lab (by rw [← HK.out, HLI.out]), by rw [Hg.out]; exact HB.out⟩
                  · have HVAL := Lib.hid (show Pl.value ((b :: r).drop 8) = ([], true) by rw [HFR.out]; exact Pl.v2_far HN.out (by omega) (by rw [← Lib.size_eq]; exact hn))
                    have HLI := Lib.hid (labelIn_none (B := true) HAT.out HVAL.out Pl.find_nil)
                    go_wp2_with fail
                    all_goals
                      go_roundw
                      case rel => first | exact ⟨HB, HM, HROW, k + 1, by omega, by go_num, by rw [HR.out, ← HLI.out]; exact HK⟩ | ((repeat apply Exists.intro); refine ⟨?_, rfl⟩; exact ⟨HB, HM, HROW, k + 1, by omega, by go_num, by rw [HR.out, ← HLI.out]; exact HK⟩)
                      case measure => simp [intOf]; omega
              · have hd0 : V.data.toList = V[0]'hz :: V.data.toList.drop 1 := drop_data V 0 hz
                have he : V.toList.isEmpty = false := by rw [Lib.toList_data, hd0]; rfl
                obtain ⟨q, hq⟩ : ∃ q, V[0]'hz = q := ⟨_, rfl⟩
                rw [hq] at hd0
                have HFV := Lib.hid (show Pl.value ((b :: r).drop 8) = if q = 34 ∨ q = 39 then Pl.value2 [q] (V.data.toList.drop 1) else Pl.value2 Pl.ends V.data.toList by rw [← HVD.out, hd0, Pl.value_cons, List.drop_succ_cons, List.drop_zero])
                clear hd0
                by_cases hqq : q = 34 ∨ q = 39
                · obtain ⟨E, hE⟩ : ∃ E, V.extract 0 1 = E := ⟨_, rfl⟩
                  obtain ⟨U, hU⟩ : ∃ U, V.extract 1 V.size = U := ⟨_, rfl⟩
                  have HFR := Lib.hid (show Pl.value ((b :: r).drop 8) = Pl.value2 E.data.toList U.data.toList by
                    have h1 : V.data.toList.take 1 = [q] := by
                      rw [List.take_one, List.head?_eq_getElem?, Lib.data_getElem? V 0 hz, hq]
                      rfl
                    rw [HFV.out, if_pos hqq, ← hE, ← hU, front_d, Lib.extract_to_end, h1])
                  have hU256 : U.size ≤ 256 := by rw [← hU]; simp; omega
                  have hz1 : (1 : Int) ≤ (V.size : Int) := by omega
                  rcases hqq with hqq | hqq
                  · have a34 : ((q.toNat : Int) == 34) = true := by rw [hqq]; rfl
                    clear hqq
                    go_wp2_with fail
                    go_quiet (fail)
                    have HDr : Drew wr (wr.drewN nq) := ⟨_, rfl⟩
                    replace HB := Lib.hid (HB.out.trans HDr.below)
                    replace HM := Lib.hid (HM.out.below HDr.below)
                    replace HROW := Lib.hid (HROW.out.below HDr.below HGW.out)
                    generalize wr.drewN nq = wq at HB HM HROW ⊢
                    go_wp2_with fail
                    clear hE hU
                    try rw [hV]
                    clear hV
                    go_loopw [11] (fun i wn => Hid (Below g w wn) ∧ Hid (Mx wn) ∧ Hid (BRow wn g (Pl.lower T.data.toList)) ∧ ∃ n : Nat, n ≤ U.size ∧ n ≤ 41 ∧ i = .int .i64 n ∧ Hid (Lib.NoAny U.data.toList E.data.toList n)) (fun i _ => U.size - (intOf i).toNat)
                    case atStart => exact ⟨HB, HM, HROW, 0, by omega, by omega, rfl, Lib.hid (Lib.NoAny.zero _ _)⟩
                    case round =>
                      clear HB HM HROW
                      obtain ⟨HB, HM, HROW, n, hn, hn41, rfl, HN⟩ := hrel
                      by_cases hn40 : n ≤ 40
                      · by_cases hlen : n < U.size
                        · obtain ⟨c, hc⟩ : ∃ c, U[n]'hlen = c := ⟨_, rfl⟩
                          have HX := Lib.hid (show U.data.toList[n]? = some c by rw [← hc]; exact Lib.data_getElem? U n hlen)
                          cases hin : E.data.toList.contains c
                          · have HIN := Lib.hid hin
                            clear hin
                            go_wp2_with (go_at_call 46; refine (ib_no E c _ HIN.out).mono ?_; rintro e w2 ⟨⟨m, hm, rfl⟩, hw⟩; subst hw)
                            go_roundw
                            case rel => first | exact ⟨HB, HM, HROW, n + 1, by omega, by omega, by go_num, Lib.hid (HN.out.succ HX.out HIN.out)⟩ | ((repeat apply Exists.intro); refine ⟨?_, rfl⟩; exact ⟨HB, HM, HROW, n + 1, by omega, by omega, by go_num, Lib.hid (HN.out.succ HX.out HIN.out)⟩)
                            case measure => simp [intOf]; omega
                          · have HIN := Lib.hid hin
                            clear hin
                            have HVAL := Lib.hid (show Pl.value ((b :: r).drop 8) = (U.data.toList.take n, true) by rw [HFR.out]; exact Pl.v2_hit HN.out HX.out HIN.out hn40)
                            have HLI := Lib.hid (labelIn_v (B := true) HAT.out HVAL.out)
                            obtain ⟨f, hf⟩ : ∃ f, Pl.find (U.data.toList.take n) = f := ⟨_, rfl⟩
                            have hfr := Pl.find_range (U.data.toList.take n)
                            rw [hf] at HLI hfr
                            have HF := Lib.hid (show Pl.find (U.extract 0 n).data.toList = f by rw [Lib.extract_data, List.drop_zero, Nat.sub_zero, hf])
                            clear hf
                            have hnl : ((n : Int) == (U.size : Int)) = false := beq_eq_false_iff_ne.2 (by omega)
                            have hsz : (U.extract 0 n).size ≤ 256 := by simp; omega
                            have hsz' := Lib.hid hsz
                            clear hsz
                            by_cases h5 : 5 ≤ f
                            · go_wp2_with (first
                                | (go_at_call 46; refine (ib_yes E c _ HIN.out).mono ?_; rintro e w2 ⟨⟨m, hm, rfl⟩, hw⟩; subst hw)
                                | (go_at_call 29; refine (refFind_any _ _ (Nat.le_trans hsz'.out (by decide)) HM.out).mono ?_; rintro e w3 ⟨rfl, hb3⟩; rw [HF.out]))
                              go_ret2
                              exact ⟨ret_lab (by rw [← HK.out, HLI.out, if_neg (by simp), if_neg (by omega), if_pos h5]), by rw [Hg.out]; exact HB.out.trans (hb3.mono (by have h1 := HB.out.size; have h2 := Hg.out; omega))⟩
                            · by_cases h0 : 0 < f
                              · go_wp2_with (first
                                  | (go_at_call 46; refine (ib_yes E c _ HIN.out).mono ?_; rintro e w2 ⟨⟨m, hm, rfl⟩, hw⟩; subst hw)
                                  | (go_at_call 29; refine (refFind_any _ _ (Nat.le_trans hsz'.out (by decide)) HM.out).mono ?_; rintro e w3 ⟨rfl, hb3⟩; rw [HF.out]))
                                go_ret2
                                exact ⟨ret_lab (by rw [← HK.out, HLI.out, if_neg (by simp), if_neg (by omega), if_neg (by omega)]), by rw [Hg.out]; exact HB.out.trans (hb3.mono (by have h1 := HB.out.size; have h2 := Hg.out; omega))⟩
                              · go_wp2_with (first
                                  | (go_at_call 46; refine (ib_yes E c _ HIN.out).mono ?_; rintro e w2 ⟨⟨m, hm, rfl⟩, hw⟩; subst hw)
                                  | (go_at_call 29; refine (refFind_any _ _ (Nat.le_trans hsz'.out (by decide)) HM.out).mono ?_; rintro e w3 ⟨rfl, hb3⟩; rw [HF.out]))
                                go_roundw
                                case rel =>
                                  refine ⟨Lib.hid (HB.out.trans (hb3.mono (by have h1 := HB.out.size; have h2 := Hg.out; omega))), Lib.hid (HM.out.below hb3), Lib.hid (HROW.out.below hb3 (lt_of_cell (HROW.out.at_ k (by rw [Pl.lower_len, ← Lib.size_eq]; exact hlt)).1)), k + 1, by omega, by go_num, ?_⟩
                                  rw [HR.out]
                                  have := HK.out
                                  rw [HLI.out, if_neg (by simp), if_pos (by omega)] at this
                                  exact this
                                case measure => simp [intOf]; omega
                        · have hne : n = U.size := by omega
                          subst hne
                          have HVAL := Lib.hid (show Pl.value ((b :: r).drop 8) = ([], false) by rw [HFR.out]; exact Pl.v2_open (by rw [← Lib.size_eq]; exact HN.out) (by rw [← Lib.size_eq]; exact hn40))
                          have HLI := Lib.hid (labelIn_open (B := true) HAT.out HVAL.out)
                          have hnl : ((U.size : Int) == (U.size : Int)) = true := by simp
                          go_wp2_with fail
                          go_ret2
                          exact ⟨ret_lab (by rw [← HK.out, HLI.out]), by rw [Hg.out]; exact HB.out⟩
                      · have HVAL := Lib.hid (show Pl.value ((b :: r).drop 8) = ([], true) by rw [HFR.out]; exact Pl.v2_far HN.out (by omega) (by rw [← Lib.size_eq]; exact hn))
                        have HLI := Lib.hid (labelIn_none (B := true) HAT.out HVAL.out Pl.find_nil)
                        go_wp2_with fail
                        all_goals
                          go_roundw
                          case rel => first | exact ⟨HB, HM, HROW, k + 1, by omega, by go_num, by rw [HR.out, ← HLI.out]; exact HK⟩ | ((repeat apply Exists.intro); refine ⟨?_, rfl⟩; exact ⟨HB, HM, HROW, k + 1, by omega, by go_num, by rw [HR.out, ← HLI.out]; exact HK⟩)
                          case measure => simp [intOf]; omega
                  · have a34 : ((q.toNat : Int) == 34) = false := by rw [hqq]; rfl
                    have a39 : ((q.toNat : Int) == 39) = true := by rw [hqq]; rfl
                    clear hqq
                    go_wp2_with fail
                    go_quiet (fail)
                    have HDr : Drew wr (wr.drewN nq) := ⟨_, rfl⟩
                    replace HB := Lib.hid (HB.out.trans HDr.below)
                    replace HM := Lib.hid (HM.out.below HDr.below)
                    replace HROW := Lib.hid (HROW.out.below HDr.below HGW.out)
                    generalize wr.drewN nq = wq at HB HM HROW ⊢
                    go_wp2_with fail
                    clear hE hU
                    try rw [hV]
                    clear hV
                    go_loopw [11] (fun i wn => Hid (Below g w wn) ∧ Hid (Mx wn) ∧ Hid (BRow wn g (Pl.lower T.data.toList)) ∧ ∃ n : Nat, n ≤ U.size ∧ n ≤ 41 ∧ i = .int .i64 n ∧ Hid (Lib.NoAny U.data.toList E.data.toList n)) (fun i _ => U.size - (intOf i).toNat)
                    case atStart => exact ⟨HB, HM, HROW, 0, by omega, by omega, rfl, Lib.hid (Lib.NoAny.zero _ _)⟩
                    case round =>
                      clear HB HM HROW
                      obtain ⟨HB, HM, HROW, n, hn, hn41, rfl, HN⟩ := hrel
                      by_cases hn40 : n ≤ 40
                      · by_cases hlen : n < U.size
                        · obtain ⟨c, hc⟩ : ∃ c, U[n]'hlen = c := ⟨_, rfl⟩
                          have HX := Lib.hid (show U.data.toList[n]? = some c by rw [← hc]; exact Lib.data_getElem? U n hlen)
                          cases hin : E.data.toList.contains c
                          · have HIN := Lib.hid hin
                            clear hin
                            go_wp2_with (go_at_call 46; refine (ib_no E c _ HIN.out).mono ?_; rintro e w2 ⟨⟨m, hm, rfl⟩, hw⟩; subst hw)
                            go_roundw
                            case rel => first | exact ⟨HB, HM, HROW, n + 1, by omega, by omega, by go_num, Lib.hid (HN.out.succ HX.out HIN.out)⟩ | ((repeat apply Exists.intro); refine ⟨?_, rfl⟩; exact ⟨HB, HM, HROW, n + 1, by omega, by omega, by go_num, Lib.hid (HN.out.succ HX.out HIN.out)⟩)
                            case measure => simp [intOf]; omega
                          · have HIN := Lib.hid hin
                            clear hin
                            have HVAL := Lib.hid (show Pl.value ((b :: r).drop 8) = (U.data.toList.take n, true) by rw [HFR.out]; exact Pl.v2_hit HN.out HX.out HIN.out hn40)
                            have HLI := Lib.hid (labelIn_v (B := true) HAT.out HVAL.out)
                            obtain ⟨f, hf⟩ : ∃ f, Pl.find (U.data.toList.take n) = f := ⟨_, rfl⟩
                            have hfr := Pl.find_range (U.data.toList.take n)
                            rw [hf] at HLI hfr
                            have HF := Lib.hid (show Pl.find (U.extract 0 n).data.toList = f by rw [Lib.extract_data, List.drop_zero, Nat.sub_zero, hf])
                            clear hf
                            have hnl : ((n : Int) == (U.size : Int)) = false := beq_eq_false_iff_ne.2 (by omega)
                            have hsz : (U.extract 0 n).size ≤ 256 := by simp; omega
                            have hsz' := Lib.hid hsz
                            clear hsz
                            by_cases h5 : 5 ≤ f
                            · go_wp2_with (first
                                | (go_at_call 46; refine (ib_yes E c _ HIN.out).mono ?_; rintro e w2 ⟨⟨m, hm, rfl⟩, hw⟩; subst hw)
                                | (go_at_call 29; refine (refFind_any _ _ (Nat.le_trans hsz'.out (by decide)) HM.out).mono ?_; rintro e w3 ⟨rfl, hb3⟩; rw [HF.out]))
                              go_ret2
                              exact ⟨ret_lab (by rw [← HK.out, HLI.out, if_neg (by simp), if_neg (by omega), if_pos h5]), by rw [Hg.out]; exact HB.out.trans (hb3.mono (by have h1 := HB.out.size; have h2 := Hg.out; omega))⟩
                            · by_cases h0 : 0 < f
                              · go_wp2_with (first
                                  | (go_at_call 46; refine (ib_yes E c _ HIN.out).mono ?_; rintro e w2 ⟨⟨m, hm, rfl⟩, hw⟩; subst hw)
                                  | (go_at_call 29; refine (refFind_any _ _ (Nat.le_trans hsz'.out (by decide)) HM.out).mono ?_; rintro e w3 ⟨rfl, hb3⟩; rw [HF.out]))
                                go_ret2
                                exact ⟨ret_lab (by rw [← HK.out, HLI.out, if_neg (by simp), if_neg (by omega), if_neg (by omega)]), by rw [Hg.out]; exact HB.out.trans (hb3.mono (by have h1 := HB.out.size; have h2 := Hg.out; omega))⟩
                              · go_wp2_with (first
                                  | (go_at_call 46; refine (ib_yes E c _ HIN.out).mono ?_; rintro e w2 ⟨⟨m, hm, rfl⟩, hw⟩; subst hw)
                                  | (go_at_call 29; refine (refFind_any _ _ (Nat.le_trans hsz'.out (by decide)) HM.out).mono ?_; rintro e w3 ⟨rfl, hb3⟩; rw [HF.out]))
                                go_roundw
                                case rel =>
                                  refine ⟨Lib.hid (HB.out.trans (hb3.mono (by have h1 := HB.out.size; have h2 := Hg.out; omega))), Lib.hid (HM.out.below hb3), Lib.hid (HROW.out.below hb3 (lt_of_cell (HROW.out.at_ k (by rw [Pl.lower_len, ← Lib.size_eq]; exact hlt)).1)), k + 1, by omega, by go_num, ?_⟩
                                  rw [HR.out]
                                  have := HK.out
                                  rw [HLI.out, if_neg (by simp), if_pos (by omega)] at this
                                  exact this
                                case measure => simp [intOf]; omega
                        · have hne : n = U.size := by omega
                          subst hne
                          have HVAL := Lib.hid (show Pl.value ((b :: r).drop 8) = ([], false) by rw [HFR.out]; exact Pl.v2_open (by rw [← Lib.size_eq]; exact HN.out) (by rw [← Lib.size_eq]; exact hn40))
                          have HLI := Lib.hid (labelIn_open (B := true) HAT.out HVAL.out)
                          have hnl : ((U.size : Int) == (U.size : Int)) = true := by simp
                          go_wp2_with fail
                          go_ret2
                          exact ⟨ret_lab (by rw [← HK.out, HLI.out]), by rw [Hg.out]; exact HB.out⟩
                      · have HVAL := Lib.hid (show Pl.value ((b :: r).drop 8) = ([], true) by rw [HFR.out]; exact Pl.v2_far HN.out (by omega) (by rw [← Lib.size_eq]; exact hn))
                        have HLI := Lib.hid (labelIn_none (B := true) HAT.out HVAL.out Pl.find_nil)
                        go_wp2_with fail
                        all_goals
                          go_roundw
                          case rel => first | exact ⟨HB, HM, HROW, k + 1, by omega, by go_num, by rw [HR.out, ← HLI.out]; exact HK⟩ | ((repeat apply Exists.intro); refine ⟨?_, rfl⟩; exact ⟨HB, HM, HROW, k + 1, by omega, by go_num, by rw [HR.out, ← HLI.out]; exact HK⟩)
                          case measure => simp [intOf]; omega
                · have a34 : ((q.toNat : Int) == 34) = false := beq_eq_false_iff_ne.2 fun e => hqq (.inl (UInt8.toNat_inj.1 (show q.toNat = 34 by omega)))
                  have a39 : ((q.toNat : Int) == 39) = false := beq_eq_false_iff_ne.2 fun e => hqq (.inr (UInt8.toNat_inj.1 (show q.toNat = 39 by omega)))
                  obtain ⟨E, hE⟩ : ∃ E : ByteArray, (⟨#[32, 9, 10, 13, 59, 34, 39, 62]⟩ : ByteArray) = E := ⟨_, rfl⟩
                  have HFR := Lib.hid (show Pl.value ((b :: r).drop 8) = Pl.value2 E.data.toList V.data.toList by rw [HFV.out, if_neg hqq, ← hE]; rfl)
                  clear hqq
                  go_wp2_with fail
                  try rw [hE]
                  clear hE
                  try rw [hV]
                  clear hV
                  go_loopw [11] (fun i wn => Hid (Below g w wn) ∧ Hid (Mx wn) ∧ Hid (BRow wn g (Pl.lower T.data.toList)) ∧ ∃ n : Nat, n ≤ V.size ∧ n ≤ 41 ∧ i = .int .i64 n ∧ Hid (Lib.NoAny V.data.toList E.data.toList n)) (fun i _ => V.size - (intOf i).toNat)
                  case atStart => exact ⟨HB, HM, HROW, 0, by omega, by omega, rfl, Lib.hid (Lib.NoAny.zero _ _)⟩
                  case round =>
                    clear HB HM HROW
                    obtain ⟨HB, HM, HROW, n, hn, hn41, rfl, HN⟩ := hrel
                    by_cases hn40 : n ≤ 40
                    · by_cases hlen : n < V.size
                      · obtain ⟨c, hc⟩ : ∃ c, V[n]'hlen = c := ⟨_, rfl⟩
                        have HX := Lib.hid (show V.data.toList[n]? = some c by rw [← hc]; exact Lib.data_getElem? V n hlen)
                        cases hin : E.data.toList.contains c
                        · have HIN := Lib.hid hin
                          clear hin
                          go_wp2_with (go_at_call 46; refine (ib_no E c _ HIN.out).mono ?_; rintro e w2 ⟨⟨m, hm, rfl⟩, hw⟩; subst hw)
                          go_roundw
                          case rel => first | exact ⟨HB, HM, HROW, n + 1, by omega, by omega, by go_num, Lib.hid (HN.out.succ HX.out HIN.out)⟩ | ((repeat apply Exists.intro); refine ⟨?_, rfl⟩; exact ⟨HB, HM, HROW, n + 1, by omega, by omega, by go_num, Lib.hid (HN.out.succ HX.out HIN.out)⟩)
                          case measure => simp [intOf]; omega
                        · have HIN := Lib.hid hin
                          clear hin
                          have HVAL := Lib.hid (show Pl.value ((b :: r).drop 8) = (V.data.toList.take n, true) by rw [HFR.out]; exact Pl.v2_hit HN.out HX.out HIN.out hn40)
                          have HLI := Lib.hid (labelIn_v (B := true) HAT.out HVAL.out)
                          obtain ⟨f, hf⟩ : ∃ f, Pl.find (V.data.toList.take n) = f := ⟨_, rfl⟩
                          have hfr := Pl.find_range (V.data.toList.take n)
                          rw [hf] at HLI hfr
                          have HF := Lib.hid (show Pl.find (V.extract 0 n).data.toList = f by rw [Lib.extract_data, List.drop_zero, Nat.sub_zero, hf])
                          clear hf
                          have hnl : ((n : Int) == (V.size : Int)) = false := beq_eq_false_iff_ne.2 (by omega)
                          have hsz : (V.extract 0 n).size ≤ 256 := by simp; omega
                          have hsz' := Lib.hid hsz
                          clear hsz
                          by_cases h5 : 5 ≤ f
                          · go_wp2_with (first
                              | (go_at_call 46; refine (ib_yes E c _ HIN.out).mono ?_; rintro e w2 ⟨⟨m, hm, rfl⟩, hw⟩; subst hw)
                              | (go_at_call 29; refine (refFind_any _ _ (Nat.le_trans hsz'.out (by decide)) HM.out).mono ?_; rintro e w3 ⟨rfl, hb3⟩; rw [HF.out]))
                            go_ret2
                            exact ⟨ret_lab (by rw [← HK.out, HLI.out, if_neg (by simp), if_neg (by omega), if_pos h5]), by rw [Hg.out]; exact HB.out.trans (hb3.mono (by have h1 := HB.out.size; have h2 := Hg.out; omega))⟩
                          · by_cases h0 : 0 < f
                            · go_wp2_with (first
                                | (go_at_call 46; refine (ib_yes E c _ HIN.out).mono ?_; rintro e w2 ⟨⟨m, hm, rfl⟩, hw⟩; subst hw)
                                | (go_at_call 29; refine (refFind_any _ _ (Nat.le_trans hsz'.out (by decide)) HM.out).mono ?_; rintro e w3 ⟨rfl, hb3⟩; rw [HF.out]))
                              go_ret2
                              exact ⟨ret_lab (by rw [← HK.out, HLI.out, if_neg (by simp), if_neg (by omega), if_neg (by omega)]), by rw [Hg.out]; exact HB.out.trans (hb3.mono (by have h1 := HB.out.size; have h2 := Hg.out; omega))⟩
                            · go_wp2_with (first
                                | (go_at_call 46; refine (ib_yes E c _ HIN.out).mono ?_; rintro e w2 ⟨⟨m, hm, rfl⟩, hw⟩; subst hw)
                                | (go_at_call 29; refine (refFind_any _ _ (Nat.le_trans hsz'.out (by decide)) HM.out).mono ?_; rintro e w3 ⟨rfl, hb3⟩; rw [HF.out]))
                              go_roundw
                              case rel =>
                                refine ⟨Lib.hid (HB.out.trans (hb3.mono (by have h1 := HB.out.size; have h2 := Hg.out; omega))), Lib.hid (HM.out.below hb3), Lib.hid (HROW.out.below hb3 (lt_of_cell (HROW.out.at_ k (by rw [Pl.lower_len, ← Lib.size_eq]; exact hlt)).1)), k + 1, by omega, by go_num, ?_⟩
                                rw [HR.out]
                                have := HK.out
                                rw [HLI.out, if_neg (by simp), if_pos (by omega)] at this
                                exact this
                              case measure => simp [intOf]; omega
                      · have hne : n = V.size := by omega
                        subst hne
                        have HVAL := Lib.hid (show Pl.value ((b :: r).drop 8) = ([], false) by rw [HFR.out]; exact Pl.v2_open (by rw [← Lib.size_eq]; exact HN.out) (by rw [← Lib.size_eq]; exact hn40))
                        have HLI := Lib.hid (labelIn_open (B := true) HAT.out HVAL.out)
                        have hnl : ((V.size : Int) == (V.size : Int)) = true := by simp
                        go_wp2_with fail
                        go_ret2
                        exact ⟨ret_lab (by rw [← HK.out, HLI.out]), by rw [Hg.out]; exact HB.out⟩
                    · have HVAL := Lib.hid (show Pl.value ((b :: r).drop 8) = ([], true) by rw [HFR.out]; exact Pl.v2_far HN.out (by omega) (by rw [← Lib.size_eq]; exact hn))
                      have HLI := Lib.hid (labelIn_none (B := true) HAT.out HVAL.out Pl.find_nil)
                      go_wp2_with fail
                      all_goals
                        go_roundw
                        case rel => first | exact ⟨HB, HM, HROW, k + 1, by omega, by go_num, by rw [HR.out, ← HLI.out]; exact HK⟩ | ((repeat apply Exists.intro); refine ⟨?_, rfl⟩; exact ⟨HB, HM, HROW, k + 1, by omega, by go_num, by rw [HR.out, ← HLI.out]; exact HK⟩)
                        case measure => simp [intOf]; omega
            · have HAT := Lib.hid (show Pl.atK Pl.key (b :: r) = (false, false) by rw [Pl.atK_many HL8.out, ← HRL.out, if_neg hkey])
              have hbt : (((⟨R.toArray⟩ : ByteArray).extract 0 8).toList == [99, 104, 97, 114, 115, 101, 116, 61]) = false := by
                rw [Lib.toList_data, front_d]
                exact beq_eq_false_iff_ne.2 hkey
              clear hkey
              go_wp2_with fail
              go_roundw
              case rel => exact ⟨HB, HM, HROW, k + 1, by omega, by go_num, by rw [HR.out, ← labelIn_not HAT.out]; exact HK⟩
              case measure => simp [intOf]; omega
        · have hke : k = T.size := by omega
          subst hke
          have HZ := Lib.hid (show Pl.labelIn true (T.data.toList.drop T.size) = (0, true) by rw [List.drop_of_length_le (by simp)]; rfl)
          go_wp2_with fail
          go_ret2
          exact ⟨ret_lab (by rw [← HK.out, HZ.out]), by rw [Hg.out]; exact HB.out⟩

set_option maxRecDepth 100000 in
set_option maxHeartbeats 8000000 in
theorem labelOf_short (s : ByteArray) (w : World) (hs : s.size ≤ maxLen) (h256 : s.size < 256) (hmx : Mx w) :
    Calls Tryd.prog 20 #[.string s] w fun e w' => e = .returned (.tuple #[.int .i64 (Pl.label s.data.toList).1, .bool (Pl.label s.data.toList).2]) ∧ Below w.heap.size w w' := by
  unfold maxLen at hs
  obtain ⟨A, hA⟩ : ∃ A, Pl.label s.data.toList = A := ⟨_, rfl⟩
  have HA := Lib.hid (show Pl.labelIn false (s).data.toList = A by
    rw [← hA]
    unfold Pl.label
    rw [← Lib.size_eq, decide_eq_false (by omega), List.take_of_length_le (by rw [← Lib.size_eq]; omega)])
  rw [hA]
  clear hA
  have HMX := Lib.hid hmx
  clear hmx
  obtain ⟨T, hT⟩ : ∃ T, s = T := ⟨_, rfl⟩
  have hTs : T.size ≤ 256 := by rw [← hT]; omega
  rw [hT] at HA
  obtain ⟨w0, hmk, hrow, hbw, hz2⟩ := make_bytes (P := Tryd.prog) Tryd.underlying69 infoByte T.size (by omega) w
  obtain ⟨g, hg⟩ : ∃ g, w.heap.size = g := ⟨_, rfl⟩
  rw [hg] at hmk hrow hbw hz2
  have Hg := Lib.hid hg
  clear hg
  subst hT
  
  
  have hB : decide ((256 : Int) ≤ (s.size : Int)) = false := decide_eq_false (by omega)
  go_enter Tryd.func20, Tryd.ntmps20
  go_wp2_with fail
  clear hmk
  go_loopw [24] (fun i wr => Below g w wr ∧ ∃ k : Nat, k ≤ s.size ∧ i = .int .i64 k ∧ BRow wr g (fresh k s.data.toList)) (fun i _ => s.size - (intOf i).toNat)
  case atStart => exact ⟨hbw, 0, by omega, rfl, by rw [fresh_zero, ← Lib.size_eq]; exact hrow⟩
  case round =>
    obtain ⟨hb, k, hk, rfl, hr⟩ := hrel
    by_cases hlt : k < s.size
    · obtain ⟨x, hx⟩ : ∃ x, s[k]'hlt = x := ⟨_, rfl⟩
      have hlen : k < s.data.toList.length := by rw [← Lib.size_eq]; exact hlt
      have hx2 : s.data.toList[k] = x := by rw [← hx]; rfl
      have HS1 := Lib.hid (fresh_set k s.data.toList hlen)
      rw [hx2] at HS1
      have hfl : k < (fresh k s.data.toList).length := by rw [fresh_len _ _ (Nat.le_of_lt hlen)]; exact hlen
      obtain ⟨hcell, hfr⟩ := hr.at_ k hfl
      have hset := hr.set_ k x hfl
      clear hx2
      have hx256 : x.toNat < 256 := x.toNat_lt
      have hgle : g ≤ g := Nat.le_refl g
      by_cases h1 : 65 ≤ x.toNat
      · by_cases h2 : x.toNat ≤ 90
        · have HU := Lib.hid (show ((Pl.small x).toNat : Int) = (x.toNat : Int) + 32 by rw [Pl.small_up h1 h2]; omega)
          have hset2 := hset.set_ k (Pl.small x) (by rw [List.length_set]; exact hfl)
          rw [List.set_set, HS1.out, HU.out] at hset2
          have HH := Lib.hid hset2
          have HW := Lib.hid ((hb.setCell (p := ⟨g, k, none⟩) hgle (.int .u8 (x.toNat : Int))).setCell (p := ⟨g, k, none⟩) hgle (.int .u8 ((x.toNat : Int) + 32)))
          clear hset hset2
          go_wp2_with fail
          go_roundw
          case rel => exact ⟨HW.out, k + 1, by omega, by go_num, HH.out⟩
          case measure => simp [intOf]; omega
        · rw [Pl.small_no (by omega)] at HS1
          rw [HS1.out] at hset
          have HH := Lib.hid hset
          have HW := Lib.hid (hb.setCell (p := ⟨g, k, none⟩) hgle (.int .u8 (x.toNat : Int)))
          clear hset
          go_wp2_with fail
          go_roundw
          case rel => exact ⟨HW.out, k + 1, by omega, by go_num, HH.out⟩
          case measure => simp [intOf]; omega
      · rw [Pl.small_no (by omega)] at HS1
        rw [HS1.out] at hset
        have HH := Lib.hid hset
        have HW := Lib.hid (hb.setCell (p := ⟨g, k, none⟩) hgle (.int .u8 (x.toNat : Int)))
        clear hset
        go_wp2_with fail
        go_roundw
        case rel => exact ⟨HW.out, k + 1, by omega, by go_num, HH.out⟩
        case measure => simp [intOf]; omega
    · have hke : k = s.size := by omega
      subst hke
      rw [show fresh s.size s.data.toList = Pl.lower s.data.toList by rw [Lib.size_eq, fresh_all]] at hr
      have hMX := Lib.hid ((HMX.out.below (hb.mono (by rw [Hg.out]; exact Nat.le_refl _))))
      have HB := Lib.hid hb
      have HROW := Lib.hid hr
      clear hb hr hrow hbw hlt hk hz2
      go_wp2_with fail
      go_loopw [52] (fun i wi => Hid (Below g w wi) ∧ Hid (Mx wi) ∧ Hid (BRow wi g (Pl.lower s.data.toList)) ∧ ∃ k : Nat, k ≤ s.size ∧ i = .int .i64 k ∧ Hid (Pl.labelIn false (s.data.toList.drop k) = A)) (fun i _ => s.size - (intOf i).toNat)
      case atStart => exact ⟨HB, hMX, HROW, 0, by omega, rfl, HA⟩
      case round =>
        obtain ⟨HB, HM, HROW, k, hk, rfl, HK⟩ := hrel
        clear HA hMX
        by_cases hlt : k < s.size
        · have hd := drop_data s k hlt
          rw [hd] at HK
          obtain ⟨b, hb⟩ : ∃ b, s[k] = b := ⟨_, rfl⟩
          rw [hb] at hd HK
          clear hb
          have HD := Lib.hid hd
          clear hd
          obtain ⟨r, hr⟩ : ∃ r, s.data.toList.drop (k + 1) = r := ⟨_, rfl⟩
          rw [hr] at HK HD
          have HR := Lib.hid hr
          clear hr
          obtain ⟨R, hR⟩ : ∃ R, (Pl.lower s.data.toList).drop k = R := ⟨_, rfl⟩
          have HRL := Lib.hid (show R = Pl.lower (b :: r) by rw [← hR, ← HD.out]; simp [Pl.lower])
          have hRl : R.length = s.size - k := by rw [← hR]; simp [Pl.lower]
          have hconv := conv_tail (P := Tryd.prog) (cap := s.size - k) (n := s.size - k) Tryd.underlying69 Tryd.underlying5 Tryd.underlying9 (k := k) HROW.out (by rw [hR]; exact hRl.symm)
          rw [hR] at hconv
          clear hR
          have hLl := Lib.hid (show (b :: r).length = R.length by rw [HRL.out, Pl.lower_len])
          by_cases h8 : R.length < 8
          · obtain ⟨P, hP⟩ : ∃ P, R.isPrefixOf Pl.key = P := ⟨_, rfl⟩
            have HP := Lib.hid hP
            have HAT := Lib.hid (show Pl.atK Pl.key (b :: r) = if P = true then (false, true) else (false, false) by rw [Pl.atK_few (by rw [hLl.out]; exact h8), ← HRL.out, hP])
            clear hP
            cases P
            · go_wp2_with (go_at_call 45; refine (hasKey_any _ _).mono ?_; rintro e w1 ⟨rfl, hw⟩; subst hw; rw [show (⟨R.toArray⟩ : ByteArray).data.toList = R from rfl, HP.out])
              go_roundw
              case rel => exact ⟨HB, HM, HROW, k + 1, by omega, by go_num, by rw [HR.out, ← labelIn_not HAT.out]; exact HK⟩
              case measure => simp [intOf]; omega
            · go_wp2_with (go_at_call 45; refine (hasKey_any _ _).mono ?_; rintro e w1 ⟨rfl, hw⟩; subst hw; rw [show (⟨R.toArray⟩ : ByteArray).data.toList = R from rfl, HP.out])
              go_ret2
              exact ⟨ret_lab (by rw [← HK.out, labelIn_more (by simp) HAT.out]), by rw [Hg.out]; exact HB.out⟩
          · have HL8 := Lib.hid (show 8 ≤ (b :: r).length by rw [hLl.out]; omega)
            by_cases hkey : R.take 8 = Pl.key
            · have HAT := Lib.hid (show Pl.atK Pl.key (b :: r) = (true, false) by rw [Pl.atK_many HL8.out, ← HRL.out, if_pos hkey])
              have hbt : (((⟨R.toArray⟩ : ByteArray).extract 0 8).toList == [99, 104, 97, 114, 115, 101, 116, 61]) = true := by
                rw [Lib.toList_data, front_d]
                exact beq_iff_eq.2 hkey
              have hk8 : k + 8 ≤ s.size := by omega
              obtain ⟨V, hV⟩ : ∃ V, s.extract (k + 8) s.size = V := ⟨_, rfl⟩
              have hVd : V.data.toList = (b :: r).drop 8 := by rw [← hV, Lib.extract_to_end, ← HD.out, List.drop_drop]
              have hVs : V.size = s.size - (k + 8) := by rw [← hV]; simp
              have hV256 : V.size ≤ 256 := by rw [hVs]; omega
              clear hVs
              have HVD := Lib.hid hVd
              clear hVd hkey
              have HGW := Lib.hid ((lt_of_cell (HROW.out.at_ k (by rw [Pl.lower_len, ← Lib.size_eq]; exact hlt)).1 : g < wr.heap.size))
              rcases Nat.eq_zero_or_pos V.size with h0 | hz
              · have hV0 : V = ⟨#[]⟩ := by
                  rcases V with ⟨⟨l⟩⟩
                  have : l.length = 0 := h0
                  rw [List.eq_nil_of_length_eq_zero this]
                subst hV0
                obtain ⟨E, hE⟩ : ∃ E : ByteArray, (⟨#[32, 9, 10, 13, 59, 34, 39, 62]⟩ : ByteArray) = E := ⟨_, rfl⟩
                obtain ⟨U, hU⟩ : ∃ U : ByteArray, (⟨#[]⟩ : ByteArray) = U := ⟨_, rfl⟩
                have HFR := Lib.hid (show Pl.value ((b :: r).drop 8) = Pl.value2 E.data.toList U.data.toList by rw [← HVD.out, ← hE, ← hU]; rfl)
                have hU256 : U.size ≤ 256 := by rw [← hU]; decide
                clear h0
                go_wp2_with fail
                clear hE hU
                try rw [hV]
                clear hV
                go_loopw [11] (fun i wn => Hid (Below g w wn) ∧ Hid (Mx wn) ∧ Hid (BRow wn g (Pl.lower s.data.toList)) ∧ ∃ n : Nat, n ≤ U.size ∧ n ≤ 41 ∧ i = .int .i64 n ∧ Hid (Lib.NoAny U.data.toList E.data.toList n)) (fun i _ => U.size - (intOf i).toNat)
                case atStart => exact ⟨HB, HM, HROW, 0, by omega, by omega, rfl, Lib.hid (Lib.NoAny.zero _ _)⟩
                case round =>
                  clear HB HM HROW
                  obtain ⟨HB, HM, HROW, n, hn, hn41, rfl, HN⟩ := hrel
                  by_cases hn40 : n ≤ 40
                  · by_cases hlen : n < U.size
                    · obtain ⟨c, hc⟩ : ∃ c, U[n]'hlen = c := ⟨_, rfl⟩
                      have HX := Lib.hid (show U.data.toList[n]? = some c by rw [← hc]; exact Lib.data_getElem? U n hlen)
                      cases hin : E.data.toList.contains c
                      · have HIN := Lib.hid hin
                        clear hin
                        go_wp2_with (go_at_call 46; refine (ib_no E c _ HIN.out).mono ?_; rintro e w2 ⟨⟨m, hm, rfl⟩, hw⟩; subst hw)
                        go_roundw
                        case rel => first | exact ⟨HB, HM, HROW, n + 1, by omega, by omega, by go_num, Lib.hid (HN.out.succ HX.out HIN.out)⟩ | ((repeat apply Exists.intro); refine ⟨?_, rfl⟩; exact ⟨HB, HM, HROW, n + 1, by omega, by omega, by go_num, Lib.hid (HN.out.succ HX.out HIN.out)⟩)
                        case measure => simp [intOf]; omega
                      · have HIN := Lib.hid hin
                        clear hin
                        have HVAL := Lib.hid (show Pl.value ((b :: r).drop 8) = (U.data.toList.take n, true) by rw [HFR.out]; exact Pl.v2_hit HN.out HX.out HIN.out hn40)
                        have HLI := Lib.hid (labelIn_v (B := false) HAT.out HVAL.out)
                        obtain ⟨f, hf⟩ : ∃ f, Pl.find (U.data.toList.take n) = f := ⟨_, rfl⟩
                        have hfr := Pl.find_range (U.data.toList.take n)
                        rw [hf] at HLI hfr
                        have HF := Lib.hid (show Pl.find (U.extract 0 n).data.toList = f by rw [Lib.extract_data, List.drop_zero, Nat.sub_zero, hf])
                        clear hf
                        have hnl : ((n : Int) == (U.size : Int)) = false := beq_eq_false_iff_ne.2 (by omega)
                        have hsz : (U.extract 0 n).size ≤ 256 := by simp; omega
                        have hsz' := Lib.hid hsz
                        clear hsz
                        by_cases h5 : 5 ≤ f
                        · go_wp2_with (first
                            | (go_at_call 46; refine (ib_yes E c _ HIN.out).mono ?_; rintro e w2 ⟨⟨m, hm, rfl⟩, hw⟩; subst hw)
                            | (go_at_call 29; refine (refFind_any _ _ (Nat.le_trans hsz'.out (by decide)) HM.out).mono ?_; rintro e w3 ⟨rfl, hb3⟩; rw [HF.out]))
                          go_ret2
                          exact ⟨ret_lab (by rw [← HK.out, HLI.out, if_neg (by simp), if_neg (by omega), if_pos h5]), by rw [Hg.out]; exact HB.out.trans (hb3.mono (by have h1 := HB.out.size; have h2 := Hg.out; omega))⟩
                        · by_cases h0 : 0 < f
                          · go_wp2_with (first
                              | (go_at_call 46; refine (ib_yes E c _ HIN.out).mono ?_; rintro e w2 ⟨⟨m, hm, rfl⟩, hw⟩; subst hw)
                              | (go_at_call 29; refine (refFind_any _ _ (Nat.le_trans hsz'.out (by decide)) HM.out).mono ?_; rintro e w3 ⟨rfl, hb3⟩; rw [HF.out]))
                            go_ret2
                            exact ⟨ret_lab (by rw [← HK.out, HLI.out, if_neg (by simp), if_neg (by omega), if_neg (by omega)]), by rw [Hg.out]; exact HB.out.trans (hb3.mono (by have h1 := HB.out.size; have h2 := Hg.out; omega))⟩
                          · go_wp2_with (first
                              | (go_at_call 46; refine (ib_yes E c _ HIN.out).mono ?_; rintro e w2 ⟨⟨m, hm, rfl⟩, hw⟩; subst hw)
                              | (go_at_call 29; refine (refFind_any _ _ (Nat.le_trans hsz'.out (by decide)) HM.out).mono ?_; rintro e w3 ⟨rfl, hb3⟩; rw [HF.out]))
                            go_roundw
                            case rel =>
                              refine ⟨Lib.hid (HB.out.trans (hb3.mono (by have h1 := HB.out.size; have h2 := Hg.out; omega))), Lib.hid (HM.out.below hb3), Lib.hid (HROW.out.below hb3 (lt_of_cell (HROW.out.at_ k (by rw [Pl.lower_len, ← Lib.size_eq]; exact hlt)).1)), k + 1, by omega, by go_num, ?_⟩
                              rw [HR.out]
                              have := HK.out
                              rw [HLI.out, if_neg (by simp), if_pos (by omega)] at this
                              exact this
                            case measure => simp [intOf]; omega
                    · have hne : n = U.size := by omega
                      subst hne
                      have HVAL := Lib.hid (show Pl.value ((b :: r).drop 8) = ([], false) by rw [HFR.out]; exact Pl.v2_open (by rw [← Lib.size_eq]; exact HN.out) (by rw [← Lib.size_eq]; exact hn40))
                      have HLI := Lib.hid (labelIn_open (B := false) HAT.out HVAL.out)
                      have hnl : ((U.size : Int) == (U.size : Int)) = true := by simp
                      go_wp2_with fail
                      go_ret2
                      exact ⟨ret_lab (by rw [← HK.out, HLI.out]), by rw [Hg.out]; exact HB.out⟩
                  · have HVAL := Lib.hid (show Pl.value ((b :: r).drop 8) = ([], true) by rw [HFR.out]; exact Pl.v2_far HN.out (by omega) (by rw [← Lib.size_eq]; exact hn))
                    have HLI := Lib.hid (labelIn_none (B := false) HAT.out HVAL.out Pl.find_nil)
                    go_wp2_with fail
                    all_goals
                      go_roundw
                      case rel => first | exact ⟨HB, HM, HROW, k + 1, by omega, by go_num, by rw [HR.out, ← HLI.out]; exact HK⟩ | ((repeat apply Exists.intro); refine ⟨?_, rfl⟩; exact ⟨HB, HM, HROW, k + 1, by omega, by go_num, by rw [HR.out, ← HLI.out]; exact HK⟩)
                      case measure => simp [intOf]; omega
              · have hd0 : V.data.toList = V[0]'hz :: V.data.toList.drop 1 := drop_data V 0 hz
                have he : V.toList.isEmpty = false := by rw [Lib.toList_data, hd0]; rfl
                obtain ⟨q, hq⟩ : ∃ q, V[0]'hz = q := ⟨_, rfl⟩
                rw [hq] at hd0
                have HFV := Lib.hid (show Pl.value ((b :: r).drop 8) = if q = 34 ∨ q = 39 then Pl.value2 [q] (V.data.toList.drop 1) else Pl.value2 Pl.ends V.data.toList by rw [← HVD.out, hd0, Pl.value_cons, List.drop_succ_cons, List.drop_zero])
                clear hd0
                by_cases hqq : q = 34 ∨ q = 39
                · obtain ⟨E, hE⟩ : ∃ E, V.extract 0 1 = E := ⟨_, rfl⟩
                  obtain ⟨U, hU⟩ : ∃ U, V.extract 1 V.size = U := ⟨_, rfl⟩
                  have HFR := Lib.hid (show Pl.value ((b :: r).drop 8) = Pl.value2 E.data.toList U.data.toList by
                    have h1 : V.data.toList.take 1 = [q] := by
                      rw [List.take_one, List.head?_eq_getElem?, Lib.data_getElem? V 0 hz, hq]
                      rfl
                    rw [HFV.out, if_pos hqq, ← hE, ← hU, front_d, Lib.extract_to_end, h1])
                  have hU256 : U.size ≤ 256 := by rw [← hU]; simp; omega
                  have hz1 : (1 : Int) ≤ (V.size : Int) := by omega
                  rcases hqq with hqq | hqq
                  · have a34 : ((q.toNat : Int) == 34) = true := by rw [hqq]; rfl
                    clear hqq
                    go_wp2_with fail
                    go_quiet (fail)
                    have HDr : Drew wr (wr.drewN nq) := ⟨_, rfl⟩
                    replace HB := Lib.hid (HB.out.trans HDr.below)
                    replace HM := Lib.hid (HM.out.below HDr.below)
                    replace HROW := Lib.hid (HROW.out.below HDr.below HGW.out)
                    generalize wr.drewN nq = wq at HB HM HROW ⊢
                    go_wp2_with fail
                    clear hE hU
                    try rw [hV]
                    clear hV
                    go_loopw [11] (fun i wn => Hid (Below g w wn) ∧ Hid (Mx wn) ∧ Hid (BRow wn g (Pl.lower s.data.toList)) ∧ ∃ n : Nat, n ≤ U.size ∧ n ≤ 41 ∧ i = .int .i64 n ∧ Hid (Lib.NoAny U.data.toList E.data.toList n)) (fun i _ => U.size - (intOf i).toNat)
                    case atStart => exact ⟨HB, HM, HROW, 0, by omega, by omega, rfl, Lib.hid (Lib.NoAny.zero _ _)⟩
                    case round =>
                      clear HB HM HROW
                      obtain ⟨HB, HM, HROW, n, hn, hn41, rfl, HN⟩ := hrel
                      by_cases hn40 : n ≤ 40
                      · by_cases hlen : n < U.size
                        · obtain ⟨c, hc⟩ : ∃ c, U[n]'hlen = c := ⟨_, rfl⟩
                          have HX := Lib.hid (show U.data.toList[n]? = some c by rw [← hc]; exact Lib.data_getElem? U n hlen)
                          cases hin : E.data.toList.contains c
                          · have HIN := Lib.hid hin
                            clear hin
                            go_wp2_with (go_at_call 46; refine (ib_no E c _ HIN.out).mono ?_; rintro e w2 ⟨⟨m, hm, rfl⟩, hw⟩; subst hw)
                            go_roundw
                            case rel => first | exact ⟨HB, HM, HROW, n + 1, by omega, by omega, by go_num, Lib.hid (HN.out.succ HX.out HIN.out)⟩ | ((repeat apply Exists.intro); refine ⟨?_, rfl⟩; exact ⟨HB, HM, HROW, n + 1, by omega, by omega, by go_num, Lib.hid (HN.out.succ HX.out HIN.out)⟩)
                            case measure => simp [intOf]; omega
                          · have HIN := Lib.hid hin
                            clear hin
                            have HVAL := Lib.hid (show Pl.value ((b :: r).drop 8) = (U.data.toList.take n, true) by rw [HFR.out]; exact Pl.v2_hit HN.out HX.out HIN.out hn40)
                            have HLI := Lib.hid (labelIn_v (B := false) HAT.out HVAL.out)
                            obtain ⟨f, hf⟩ : ∃ f, Pl.find (U.data.toList.take n) = f := ⟨_, rfl⟩
                            have hfr := Pl.find_range (U.data.toList.take n)
                            rw [hf] at HLI hfr
                            have HF := Lib.hid (show Pl.find (U.extract 0 n).data.toList = f by rw [Lib.extract_data, List.drop_zero, Nat.sub_zero, hf])
                            clear hf
                            have hnl : ((n : Int) == (U.size : Int)) = false := beq_eq_false_iff_ne.2 (by omega)
                            have hsz : (U.extract 0 n).size ≤ 256 := by simp; omega
                            have hsz' := Lib.hid hsz
                            clear hsz
                            by_cases h5 : 5 ≤ f
                            · go_wp2_with (first
                                | (go_at_call 46; refine (ib_yes E c _ HIN.out).mono ?_; rintro e w2 ⟨⟨m, hm, rfl⟩, hw⟩; subst hw)
                                | (go_at_call 29; refine (refFind_any _ _ (Nat.le_trans hsz'.out (by decide)) HM.out).mono ?_; rintro e w3 ⟨rfl, hb3⟩; rw [HF.out]))
                              go_ret2
                              exact ⟨ret_lab (by rw [← HK.out, HLI.out, if_neg (by simp), if_neg (by omega), if_pos h5]), by rw [Hg.out]; exact HB.out.trans (hb3.mono (by have h1 := HB.out.size; have h2 := Hg.out; omega))⟩
                            · by_cases h0 : 0 < f
                              · go_wp2_with (first
                                  | (go_at_call 46; refine (ib_yes E c _ HIN.out).mono ?_; rintro e w2 ⟨⟨m, hm, rfl⟩, hw⟩; subst hw)
                                  | (go_at_call 29; refine (refFind_any _ _ (Nat.le_trans hsz'.out (by decide)) HM.out).mono ?_; rintro e w3 ⟨rfl, hb3⟩; rw [HF.out]))
                                go_ret2
                                exact ⟨ret_lab (by rw [← HK.out, HLI.out, if_neg (by simp), if_neg (by omega), if_neg (by omega)]), by rw [Hg.out]; exact HB.out.trans (hb3.mono (by have h1 := HB.out.size; have h2 := Hg.out; omega))⟩
                              · go_wp2_with (first
                                  | (go_at_call 46; refine (ib_yes E c _ HIN.out).mono ?_; rintro e w2 ⟨⟨m, hm, rfl⟩, hw⟩; subst hw)
                                  | (go_at_call 29; refine (refFind_any _ _ (Nat.le_trans hsz'.out (by decide)) HM.out).mono ?_; rintro e w3 ⟨rfl, hb3⟩; rw [HF.out]))
                                go_roundw
                                case rel =>
                                  refine ⟨Lib.hid (HB.out.trans (hb3.mono (by have h1 := HB.out.size; have h2 := Hg.out; omega))), Lib.hid (HM.out.below hb3), Lib.hid (HROW.out.below hb3 (lt_of_cell (HROW.out.at_ k (by rw [Pl.lower_len, ← Lib.size_eq]; exact hlt)).1)), k + 1, by omega, by go_num, ?_⟩
                                  rw [HR.out]
                                  have := HK.out
                                  rw [HLI.out, if_neg (by simp), if_pos (by omega)] at this
                                  exact this
                                case measure => simp [intOf]; omega
                        · have hne : n = U.size := by omega
                          subst hne
                          have HVAL := Lib.hid (show Pl.value ((b :: r).drop 8) = ([], false) by rw [HFR.out]; exact Pl.v2_open (by rw [← Lib.size_eq]; exact HN.out) (by rw [← Lib.size_eq]; exact hn40))
                          have HLI := Lib.hid (labelIn_open (B := false) HAT.out HVAL.out)
                          have hnl : ((U.size : Int) == (U.size : Int)) = true := by simp
                          go_wp2_with fail
                          go_ret2
                          exact ⟨ret_lab (by rw [← HK.out, HLI.out]), by rw [Hg.out]; exact HB.out⟩
                      · have HVAL := Lib.hid (show Pl.value ((b :: r).drop 8) = ([], true) by rw [HFR.out]; exact Pl.v2_far HN.out (by omega) (by rw [← Lib.size_eq]; exact hn))
                        have HLI := Lib.hid (labelIn_none (B := false) HAT.out HVAL.out Pl.find_nil)
                        go_wp2_with fail
                        all_goals
                          go_roundw
                          case rel => first | exact ⟨HB, HM, HROW, k + 1, by omega, by go_num, by rw [HR.out, ← HLI.out]; exact HK⟩ | ((repeat apply Exists.intro); refine ⟨?_, rfl⟩; exact ⟨HB, HM, HROW, k + 1, by omega, by go_num, by rw [HR.out, ← HLI.out]; exact HK⟩)
                          case measure => simp [intOf]; omega
                  · have a34 : ((q.toNat : Int) == 34) = false := by rw [hqq]; rfl
                    have a39 : ((q.toNat : Int) == 39) = true := by rw [hqq]; rfl
                    clear hqq
                    go_wp2_with fail
                    go_quiet (fail)
                    have HDr : Drew wr (wr.drewN nq) := ⟨_, rfl⟩
                    replace HB := Lib.hid (HB.out.trans HDr.below)
                    replace HM := Lib.hid (HM.out.below HDr.below)
                    replace HROW := Lib.hid (HROW.out.below HDr.below HGW.out)
                    generalize wr.drewN nq = wq at HB HM HROW ⊢
                    go_wp2_with fail
                    clear hE hU
                    try rw [hV]
                    clear hV
                    go_loopw [11] (fun i wn => Hid (Below g w wn) ∧ Hid (Mx wn) ∧ Hid (BRow wn g (Pl.lower s.data.toList)) ∧ ∃ n : Nat, n ≤ U.size ∧ n ≤ 41 ∧ i = .int .i64 n ∧ Hid (Lib.NoAny U.data.toList E.data.toList n)) (fun i _ => U.size - (intOf i).toNat)
                    case atStart => exact ⟨HB, HM, HROW, 0, by omega, by omega, rfl, Lib.hid (Lib.NoAny.zero _ _)⟩
                    case round =>
                      clear HB HM HROW
                      obtain ⟨HB, HM, HROW, n, hn, hn41, rfl, HN⟩ := hrel
                      by_cases hn40 : n ≤ 40
                      · by_cases hlen : n < U.size
                        · obtain ⟨c, hc⟩ : ∃ c, U[n]'hlen = c := ⟨_, rfl⟩
                          have HX := Lib.hid (show U.data.toList[n]? = some c by rw [← hc]; exact Lib.data_getElem? U n hlen)
                          cases hin : E.data.toList.contains c
                          · have HIN := Lib.hid hin
                            clear hin
                            go_wp2_with (go_at_call 46; refine (ib_no E c _ HIN.out).mono ?_; rintro e w2 ⟨⟨m, hm, rfl⟩, hw⟩; subst hw)
                            go_roundw
                            case rel => first | exact ⟨HB, HM, HROW, n + 1, by omega, by omega, by go_num, Lib.hid (HN.out.succ HX.out HIN.out)⟩ | ((repeat apply Exists.intro); refine ⟨?_, rfl⟩; exact ⟨HB, HM, HROW, n + 1, by omega, by omega, by go_num, Lib.hid (HN.out.succ HX.out HIN.out)⟩)
                            case measure => simp [intOf]; omega
                          · have HIN := Lib.hid hin
                            clear hin
                            have HVAL := Lib.hid (show Pl.value ((b :: r).drop 8) = (U.data.toList.take n, true) by rw [HFR.out]; exact Pl.v2_hit HN.out HX.out HIN.out hn40)
                            have HLI := Lib.hid (labelIn_v (B := false) HAT.out HVAL.out)
                            obtain ⟨f, hf⟩ : ∃ f, Pl.find (U.data.toList.take n) = f := ⟨_, rfl⟩
                            have hfr := Pl.find_range (U.data.toList.take n)
                            rw [hf] at HLI hfr
                            have HF := Lib.hid (show Pl.find (U.extract 0 n).data.toList = f by rw [Lib.extract_data, List.drop_zero, Nat.sub_zero, hf])
                            clear hf
                            have hnl : ((n : Int) == (U.size : Int)) = false := beq_eq_false_iff_ne.2 (by omega)
                            have hsz : (U.extract 0 n).size ≤ 256 := by simp; omega
                            have hsz' := Lib.hid hsz
                            clear hsz
                            by_cases h5 : 5 ≤ f
                            · go_wp2_with (first
                                | (go_at_call 46; refine (ib_yes E c _ HIN.out).mono ?_; rintro e w2 ⟨⟨m, hm, rfl⟩, hw⟩; subst hw)
                                | (go_at_call 29; refine (refFind_any _ _ (Nat.le_trans hsz'.out (by decide)) HM.out).mono ?_; rintro e w3 ⟨rfl, hb3⟩; rw [HF.out]))
                              go_ret2
                              exact ⟨ret_lab (by rw [← HK.out, HLI.out, if_neg (by simp), if_neg (by omega), if_pos h5]), by rw [Hg.out]; exact HB.out.trans (hb3.mono (by have h1 := HB.out.size; have h2 := Hg.out; omega))⟩
                            · by_cases h0 : 0 < f
                              · go_wp2_with (first
                                  | (go_at_call 46; refine (ib_yes E c _ HIN.out).mono ?_; rintro e w2 ⟨⟨m, hm, rfl⟩, hw⟩; subst hw)
                                  | (go_at_call 29; refine (refFind_any _ _ (Nat.le_trans hsz'.out (by decide)) HM.out).mono ?_; rintro e w3 ⟨rfl, hb3⟩; rw [HF.out]))
                                go_ret2
                                exact ⟨ret_lab (by rw [← HK.out, HLI.out, if_neg (by simp), if_neg (by omega), if_neg (by omega)]), by rw [Hg.out]; exact HB.out.trans (hb3.mono (by have h1 := HB.out.size; have h2 := Hg.out; omega))⟩
                              · go_wp2_with (first
                                  | (go_at_call 46; refine (ib_yes E c _ HIN.out).mono ?_; rintro e w2 ⟨⟨m, hm, rfl⟩, hw⟩; subst hw)
                                  | (go_at_call 29; refine (refFind_any _ _ (Nat.le_trans hsz'.out (by decide)) HM.out).mono ?_; rintro e w3 ⟨rfl, hb3⟩; rw [HF.out]))
                                go_roundw
                                case rel =>
                                  refine ⟨Lib.hid (HB.out.trans (hb3.mono (by have h1 := HB.out.size; have h2 := Hg.out; omega))), Lib.hid (HM.out.below hb3), Lib.hid (HROW.out.below hb3 (lt_of_cell (HROW.out.at_ k (by rw [Pl.lower_len, ← Lib.size_eq]; exact hlt)).1)), k + 1, by omega, by go_num, ?_⟩
                                  rw [HR.out]
                                  have := HK.out
                                  rw [HLI.out, if_neg (by simp), if_pos (by omega)] at this
                                  exact this
                                case measure => simp [intOf]; omega
                        · have hne : n = U.size := by omega
                          subst hne
                          have HVAL := Lib.hid (show Pl.value ((b :: r).drop 8) = ([], false) by rw [HFR.out]; exact Pl.v2_open (by rw [← Lib.size_eq]; exact HN.out) (by rw [← Lib.size_eq]; exact hn40))
                          have HLI := Lib.hid (labelIn_open (B := false) HAT.out HVAL.out)
                          have hnl : ((U.size : Int) == (U.size : Int)) = true := by simp
                          go_wp2_with fail
                          go_ret2
                          exact ⟨ret_lab (by rw [← HK.out, HLI.out]), by rw [Hg.out]; exact HB.out⟩
                      · have HVAL := Lib.hid (show Pl.value ((b :: r).drop 8) = ([], true) by rw [HFR.out]; exact Pl.v2_far HN.out (by omega) (by rw [← Lib.size_eq]; exact hn))
                        have HLI := Lib.hid (labelIn_none (B := false) HAT.out HVAL.out Pl.find_nil)
                        go_wp2_with fail
                        all_goals
                          go_roundw
                          case rel => first | exact ⟨HB, HM, HROW, k + 1, by omega, by go_num, by rw [HR.out, ← HLI.out]; exact HK⟩ | ((repeat apply Exists.intro); refine ⟨?_, rfl⟩; exact ⟨HB, HM, HROW, k + 1, by omega, by go_num, by rw [HR.out, ← HLI.out]; exact HK⟩)
                          case measure => simp [intOf]; omega
                · have a34 : ((q.toNat : Int) == 34) = false := beq_eq_false_iff_ne.2 fun e => hqq (.inl (UInt8.toNat_inj.1 (show q.toNat = 34 by omega)))
                  have a39 : ((q.toNat : Int) == 39) = false := beq_eq_false_iff_ne.2 fun e => hqq (.inr (UInt8.toNat_inj.1 (show q.toNat = 39 by omega)))
                  obtain ⟨E, hE⟩ : ∃ E : ByteArray, (⟨#[32, 9, 10, 13, 59, 34, 39, 62]⟩ : ByteArray) = E := ⟨_, rfl⟩
                  have HFR := Lib.hid (show Pl.value ((b :: r).drop 8) = Pl.value2 E.data.toList V.data.toList by rw [HFV.out, if_neg hqq, ← hE]; rfl)
                  clear hqq
                  go_wp2_with fail
                  try rw [hE]
                  clear hE
                  try rw [hV]
                  clear hV
                  go_loopw [11] (fun i wn => Hid (Below g w wn) ∧ Hid (Mx wn) ∧ Hid (BRow wn g (Pl.lower s.data.toList)) ∧ ∃ n : Nat, n ≤ V.size ∧ n ≤ 41 ∧ i = .int .i64 n ∧ Hid (Lib.NoAny V.data.toList E.data.toList n)) (fun i _ => V.size - (intOf i).toNat)
                  case atStart => exact ⟨HB, HM, HROW, 0, by omega, by omega, rfl, Lib.hid (Lib.NoAny.zero _ _)⟩
                  case round =>
                    clear HB HM HROW
                    obtain ⟨HB, HM, HROW, n, hn, hn41, rfl, HN⟩ := hrel
                    by_cases hn40 : n ≤ 40
                    · by_cases hlen : n < V.size
                      · obtain ⟨c, hc⟩ : ∃ c, V[n]'hlen = c := ⟨_, rfl⟩
                        have HX := Lib.hid (show V.data.toList[n]? = some c by rw [← hc]; exact Lib.data_getElem? V n hlen)
                        cases hin : E.data.toList.contains c
                        · have HIN := Lib.hid hin
                          clear hin
                          go_wp2_with (go_at_call 46; refine (ib_no E c _ HIN.out).mono ?_; rintro e w2 ⟨⟨m, hm, rfl⟩, hw⟩; subst hw)
                          go_roundw
                          case rel => first | exact ⟨HB, HM, HROW, n + 1, by omega, by omega, by go_num, Lib.hid (HN.out.succ HX.out HIN.out)⟩ | ((repeat apply Exists.intro); refine ⟨?_, rfl⟩; exact ⟨HB, HM, HROW, n + 1, by omega, by omega, by go_num, Lib.hid (HN.out.succ HX.out HIN.out)⟩)
                          case measure => simp [intOf]; omega
                        · have HIN := Lib.hid hin
                          clear hin
                          have HVAL := Lib.hid (show Pl.value ((b :: r).drop 8) = (V.data.toList.take n, true) by rw [HFR.out]; exact Pl.v2_hit HN.out HX.out HIN.out hn40)
                          have HLI := Lib.hid (labelIn_v (B := false) HAT.out HVAL.out)
                          obtain ⟨f, hf⟩ : ∃ f, Pl.find (V.data.toList.take n) = f := ⟨_, rfl⟩
                          have hfr := Pl.find_range (V.data.toList.take n)
                          rw [hf] at HLI hfr
                          have HF := Lib.hid (show Pl.find (V.extract 0 n).data.toList = f by rw [Lib.extract_data, List.drop_zero, Nat.sub_zero, hf])
                          clear hf
                          have hnl : ((n : Int) == (V.size : Int)) = false := beq_eq_false_iff_ne.2 (by omega)
                          have hsz : (V.extract 0 n).size ≤ 256 := by simp; omega
                          have hsz' := Lib.hid hsz
                          clear hsz
                          by_cases h5 : 5 ≤ f
                          · go_wp2_with (first
                              | (go_at_call 46; refine (ib_yes E c _ HIN.out).mono ?_; rintro e w2 ⟨⟨m, hm, rfl⟩, hw⟩; subst hw)
                              | (go_at_call 29; refine (refFind_any _ _ (Nat.le_trans hsz'.out (by decide)) HM.out).mono ?_; rintro e w3 ⟨rfl, hb3⟩; rw [HF.out]))
                            go_ret2
                            exact ⟨ret_lab (by rw [← HK.out, HLI.out, if_neg (by simp), if_neg (by omega), if_pos h5]), by rw [Hg.out]; exact HB.out.trans (hb3.mono (by have h1 := HB.out.size; have h2 := Hg.out; omega))⟩
                          · by_cases h0 : 0 < f
                            · go_wp2_with (first
                                | (go_at_call 46; refine (ib_yes E c _ HIN.out).mono ?_; rintro e w2 ⟨⟨m, hm, rfl⟩, hw⟩; subst hw)
                                | (go_at_call 29; refine (refFind_any _ _ (Nat.le_trans hsz'.out (by decide)) HM.out).mono ?_; rintro e w3 ⟨rfl, hb3⟩; rw [HF.out]))
                              go_ret2
                              exact ⟨ret_lab (by rw [← HK.out, HLI.out, if_neg (by simp), if_neg (by omega), if_neg (by omega)]), by rw [Hg.out]; exact HB.out.trans (hb3.mono (by have h1 := HB.out.size; have h2 := Hg.out; omega))⟩
                            · go_wp2_with (first
                                | (go_at_call 46; refine (ib_yes E c _ HIN.out).mono ?_; rintro e w2 ⟨⟨m, hm, rfl⟩, hw⟩; subst hw)
                                | (go_at_call 29; refine (refFind_any _ _ (Nat.le_trans hsz'.out (by decide)) HM.out).mono ?_; rintro e w3 ⟨rfl, hb3⟩; rw [HF.out]))
                              go_roundw
                              case rel =>
                                refine ⟨Lib.hid (HB.out.trans (hb3.mono (by have h1 := HB.out.size; have h2 := Hg.out; omega))), Lib.hid (HM.out.below hb3), Lib.hid (HROW.out.below hb3 (lt_of_cell (HROW.out.at_ k (by rw [Pl.lower_len, ← Lib.size_eq]; exact hlt)).1)), k + 1, by omega, by go_num, ?_⟩
                                rw [HR.out]
                                have := HK.out
                                rw [HLI.out, if_neg (by simp), if_pos (by omega)] at this
                                exact this
                              case measure => simp [intOf]; omega
                      · have hne : n = V.size := by omega
                        subst hne
                        have HVAL := Lib.hid (show Pl.value ((b :: r).drop 8) = ([], false) by rw [HFR.out]; exact Pl.v2_open (by rw [← Lib.size_eq]; exact HN.out) (by rw [← Lib.size_eq]; exact hn40))
                        have HLI := Lib.hid (labelIn_open (B := false) HAT.out HVAL.out)
                        have hnl : ((V.size : Int) == (V.size : Int)) = true := by simp
                        go_wp2_with fail
                        go_ret2
                        exact ⟨ret_lab (by rw [← HK.out, HLI.out]), by rw [Hg.out]; exact HB.out⟩
                    · have HVAL := Lib.hid (show Pl.value ((b :: r).drop 8) = ([], true) by rw [HFR.out]; exact Pl.v2_far HN.out (by omega) (by rw [← Lib.size_eq]; exact hn))
                      have HLI := Lib.hid (labelIn_none (B := false) HAT.out HVAL.out Pl.find_nil)
                      go_wp2_with fail
                      all_goals
                        go_roundw
                        case rel => first | exact ⟨HB, HM, HROW, k + 1, by omega, by go_num, by rw [HR.out, ← HLI.out]; exact HK⟩ | ((repeat apply Exists.intro); refine ⟨?_, rfl⟩; exact ⟨HB, HM, HROW, k + 1, by omega, by go_num, by rw [HR.out, ← HLI.out]; exact HK⟩)
                        case measure => simp [intOf]; omega
            · have HAT := Lib.hid (show Pl.atK Pl.key (b :: r) = (false, false) by rw [Pl.atK_many HL8.out, ← HRL.out, if_neg hkey])
              have hbt : (((⟨R.toArray⟩ : ByteArray).extract 0 8).toList == [99, 104, 97, 114, 115, 101, 116, 61]) = false := by
                rw [Lib.toList_data, front_d]
                exact beq_eq_false_iff_ne.2 hkey
              clear hkey
              go_wp2_with fail
              go_roundw
              case rel => exact ⟨HB, HM, HROW, k + 1, by omega, by go_num, by rw [HR.out, ← labelIn_not HAT.out]; exact HK⟩
              case measure => simp [intOf]; omega
        · have hke : k = s.size := by omega
          subst hke
          have HZ := Lib.hid (show Pl.labelIn false (s.data.toList.drop s.size) = (0, false) by rw [List.drop_of_length_le (by simp)]; rfl)
          go_wp2_with fail
          go_ret2
          exact ⟨ret_lab (by rw [← HK.out, HZ.out]), by rw [Hg.out]; exact HB.out⟩

theorem labelOf_any (s : ByteArray) (w : World) (hs : s.size ≤ maxLen) (hmx : Mx w) :
    Calls Tryd.prog 20 #[.string s] w fun e w' => e = .returned (.tuple #[.int .i64 (Pl.label s.data.toList).1, .bool (Pl.label s.data.toList).2]) ∧ Below w.heap.size w w' := by
  by_cases h : 256 ≤ s.size
  · exact labelOf_long s w hs h hmx
  · exact labelOf_short s w hs (by omega) hmx
end Go.Proofs.YtefohnbmifblkaaDoor
