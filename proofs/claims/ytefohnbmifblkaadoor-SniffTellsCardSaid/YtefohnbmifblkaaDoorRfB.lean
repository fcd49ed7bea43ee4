/-
  The walk of the references' Trimmed: it returns what the plain function trim says, for every text of at most 2^40 bytes.
-/
import Derived.Test.YtefohnbmifblkaaDoorRfA
namespace Go.Proofs.YtefohnbmifblkaaDoor
open Go.RowKit

theorem back_cons {p : UInt8 → Bool} (x : UInt8) (l : List UInt8) : ((x :: l).reverse.dropWhile p).reverse = if (l.reverse.dropWhile p).reverse = [] ∧ p x = true then [] else x :: (l.reverse.dropWhile p).reverse := by
  rw [List.reverse_cons, List.dropWhile_append]
  by_cases h : l.reverse.dropWhile p = []
  · rw [h]
    cases hx : p x
    · rw [show ([] : List UInt8).isEmpty = true from rfl, if_pos rfl, List.dropWhile_cons, hx]
      rfl
    · rw [show ([] : List UInt8).isEmpty = true from rfl, if_pos rfl, List.dropWhile_cons, hx]
      rfl
  · have h' : (l.reverse.dropWhile p).isEmpty = false := by
      cases hl : l.reverse.dropWhile p with
      | nil => exact absurd hl h
      | cons _ _ => rfl
    rw [h', if_neg (by simp), if_neg (fun e => h (List.reverse_eq_nil_iff.1 e.1)), List.reverse_append]
    rfl
theorem trimRight_cons (x : UInt8) (l cs : List UInt8) : Lib.trimRightS (x :: l) cs = if Lib.trimRightS l cs = [] ∧ cs.contains x = true then [] else x :: Lib.trimRightS l cs :=
  back_cons x l
theorem trimLeft_cons (x : UInt8) (l cs : List UInt8) : Lib.trimLeftS (x :: l) cs = if cs.contains x = true then Lib.trimLeftS l cs else x :: l := by
  unfold Lib.trimLeftS
  rw [List.dropWhile_cons]
theorem trim_swap (cs : List UInt8) : ∀ l : List UInt8, Lib.trimRightS (Lib.trimLeftS l cs) cs = Lib.trimS l cs
  | [] => rfl
  | x :: l => by
    have ih := trim_swap cs l
    unfold Lib.trimS at ih ⊢
    rw [trimLeft_cons, trimRight_cons]
    by_cases hx : cs.contains x = true
    · rw [if_pos hx, ih]
      by_cases hr : Lib.trimRightS l cs = []
      · rw [if_pos ⟨hr, hx⟩, hr]
      · rw [if_neg (fun h => hr h.1), trimLeft_cons, if_pos hx]
    · rw [if_neg hx, if_neg (fun h => hx h.2), trimLeft_cons, if_neg hx, trimRight_cons, if_neg (fun h => hx h.2)]
theorem trimRight_snoc (l cs : List UInt8) (x : UInt8) : Lib.trimRightS (l ++ [x]) cs = if cs.contains x = true then Lib.trimRightS l cs else l ++ [x] := by
  unfold Lib.trimRightS
  rw [List.reverse_append, List.reverse_cons, List.reverse_nil, List.nil_append, List.singleton_append, List.dropWhile_cons]
  split
  · rfl
  · simp

/-- the length of a text. -/
def szOf : Value → Nat
  | .string t => t.size
  | _ => 0
theorem szOf_string (t : ByteArray) : szOf (.string t) = t.size := rfl

theorem make_bytes {P : Program} {t e : TypeId} (ht : P.underlying t = some (.slice e)) (hinfo : (P.info? e).map (fun i => (i.zero, i.size, i.bytes)) = some (some (.int .u8 0), 1, 1)) (n : Nat) (hn : n ≤ 281474976710656) (w : World) :
    ∃ w1, (Instr.makeSlice t (.int .i64 (n : Int)) (.int .i64 (n : Int))).run P w = .ok (.slice (some ⟨w.heap.size, 0, none⟩) n n) w1 ∧ BRow w1 w.heap.size (List.replicate n 0) ∧ Below w.heap.size w w1 ∧ w.heap.size < w1.heap.size := by
  refine ⟨_, run_make_row' t e (.int .u8 0) 1 ht hinfo rfl .i64 .i64 n (by omega) (by omega) w, ?_, (Below.refl _ _).alloc (Nat.le_refl _) _, by simp⟩
  intro j b hj
  have hjn : j < n := by
    have := (List.getElem?_eq_some_iff.1 hj).1
    simpa using this
  have hb : b = 0 := by
    rw [List.getElem?_replicate] at hj
    simp [hjn] at hj
    exact hj.symm
  subst hb
  have hm : madeCells #[Value.int .u8 0] n = Array.replicate n (.int .u8 0) := by
    unfold madeCells
    apply Array.ext
    · simp
    · intro i h1 h2
      simp [Nat.mod_one]
  rw [hm]
  refine ⟨?_, ?_⟩
  · rw [World.cell?_alloc_at _ _ _ _ rfl]
    simp [hjn]
  · simp [World.frozen?, World.alloc, -World.alloc_eq]

theorem infoByte : (Tryd.prog.info? 5).map (fun i => (i.zero, i.size, i.bytes)) = some (some (.int .u8 0), 1, 1) := by kernel_rfl

theorem half_at' (k : Nat) (l : List UInt8) (h : k < l.length) : (half k l)[k]'(by rw [half_len]; exact h) = l[k] := by
  have := half_at k l h
  rw [List.getElem?_eq_getElem (by rw [half_len]; exact h)] at this
  exact Option.some.inj this

/-- the first k letters are there, small; zeros behind. -/
def fresh (k : Nat) (l : List UInt8) : List UInt8 := (l.take k).map Pl.small ++ List.replicate (l.length - k) 0
theorem fresh_len (k : Nat) (l : List UInt8) (h : k ≤ l.length) : (fresh k l).length = l.length := by
  unfold fresh
  simp
  omega
theorem fresh_set (k : Nat) (l : List UInt8) (h : k < l.length) : (fresh k l).set k (Pl.small l[k]) = fresh (k + 1) l := by
  unfold fresh
  rw [List.set_append_right _ _ (by simp; omega), List.take_succ_eq_append_getElem h, List.map_append, List.append_assoc]
  congr 1
  simp only [List.length_map, List.length_take, Nat.min_eq_left (Nat.le_of_lt h), Nat.sub_self]
  rw [show l.length - k = (l.length - (k + 1)) + 1 by omega, List.replicate_succ]
  rfl
theorem fresh_zero (l : List UInt8) : fresh 0 l = List.replicate l.length 0 := by simp [fresh]
theorem fresh_all (l : List UInt8) : fresh l.length l = Pl.lower l := by simp [fresh, Pl.lower]

set_option maxRecDepth 100000 in
set_option maxHeartbeats 4000000 in
theorem trimmed_any (s : ByteArray) (w : World) (hs : s.size ≤ 40) :
    Calls Tryd.prog 51 #[.string s] w fun e w' => e = .returned (.string ⟨(Pl.trim s.data.toList).toArray⟩) ∧ Below w.heap.size w w' := by
  obtain ⟨A, hA⟩ : ∃ A, Lib.trimS s.data.toList Pl.spaces = A := ⟨_, rfl⟩
  have HA := Lib.hid hA
  have hT : Pl.trim s.data.toList = Pl.lower A := by unfold Pl.trim; rw [hA]
  rw [hT]
  clear hT hA
  go_enter Tryd.func51, Tryd.ntmps51
  go_wp2
  go_loopw [0] (fun v wr => w = wr ∧ ∃ t : ByteArray, v = .string t ∧ t.size ≤ 40 ∧ Hid (Lib.trimRightS (Lib.trimLeftS t.data.toList Pl.spaces) Pl.spaces = A)) (fun v _ => szOf v)
  case atStart => exact ⟨rfl, s, rfl, hs, Lib.hid ((trim_swap _ _).trans HA.out)⟩
  case round =>
    obtain ⟨rfl, t, rfl, ht, HK⟩ := hrel
    clear HA
    by_cases hgo : ∃ hz : 0 < t.size, Pl.spaces.contains (t[0]'hz) = true
    · obtain ⟨hz, hsp⟩ := hgo
      have he : t.toList.isEmpty = false := by
        rw [Lib.toList_data, drop_data t 0 hz |> fun h => show t.data.toList = _ from h]
        rfl
      have HD := Lib.hid (show t.data.toList = t[0]'hz :: t.data.toList.drop 1 from drop_data t 0 hz)
      have HS := Lib.hid hsp
      clear hsp
      go_wp2_with (go_at_call 67; refine (space_any _ _).mono ?_; rintro e w1 ⟨rfl, hw⟩; subst hw; rw [HS.out])
      go_roundw
      case rel => exact ⟨trivial, t.extract 1 t.size, rfl, by simp; omega, by rw [Lib.extract_to_end]; rw [HD.out, trimLeft_cons, if_pos HS.out] at HK; exact HK⟩
      case measure => simp [szOf]; omega
    · by_cases hz : 0 < t.size
      · obtain ⟨b, hb⟩ : ∃ b, t[0]'hz = b := ⟨_, rfl⟩
        have hsp : Pl.spaces.contains b = false := by
          rw [Bool.eq_false_iff]
          intro h
          exact hgo ⟨hz, by rw [hb]; exact h⟩
        clear hgo
        have hd : t.data.toList = t[0]'hz :: t.data.toList.drop 1 := drop_data t 0 hz
        have he : t.toList.isEmpty = false := by
          rw [Lib.toList_data, hd]
          rfl
        have HK2 : Hid (Lib.trimRightS t.data.toList Pl.spaces = A) := by
          have := HK.out
          rw [hd, trimLeft_cons, hb, if_neg (by rw [hsp]; simp), ← hb, ← hd] at this
          exact this
        have HS := Lib.hid hsp
        have HB0 := Lib.hid (show t.data.toList[0]? = some b by rw [hd, hb]; rfl)
        have Hb := Lib.hid hb
        clear hsp HK hd hb
        go_wp2_with (go_at_call 67; refine (space_any _ _).mono ?_; rintro e w1 ⟨rfl, hw⟩; subst hw; rw [Hb.out, HS.out])
        go_loopw [0] (fun v wr => w = wr ∧ ∃ u : ByteArray, v = .string u ∧ u.size ≤ 40 ∧ Hid (u.data.toList[0]? = some b) ∧ Hid (Lib.trimRightS u.data.toList Pl.spaces = A)) (fun v _ => szOf v)
        case atStart => exact ⟨rfl, t, rfl, ht, HB0, HK2⟩
        case round =>
          obtain ⟨rfl, u, rfl, hu, HU0, HKu⟩ := hrel
          clear HB0 HK2
          have hn : ∃ n, u.size = n + 1 := by
            have h1 := (List.getElem?_eq_some_iff.1 HU0.out).1
            rw [← Lib.size_eq] at h1
            exact ⟨u.size - 1, by omega⟩
          obtain ⟨n, hn⟩ := hn
          have hlt : n < u.size := by omega
          obtain ⟨c, hc⟩ : ∃ c, u[n]'hlt = c := ⟨_, rfl⟩
          have hsp := Lib.hid (show u.data.toList = u.data.toList.take n ++ [c] by
            have h1 := List.take_succ_eq_append_getElem (l := u.data.toList) (i := n) (by simpa using hlt)
            rw [List.take_of_length_le (by rw [← Lib.size_eq]; omega)] at h1
            rw [← hc]
            exact h1)
          have he : u.toList.isEmpty = false := by
            rw [Lib.toList_data, hsp.out]
            simp
          have hlt2 : (n : Int) < (u.size : Int) := by omega
          have hsub : (u.size : Int) - 1 = (n : Int) := by omega
          have HN := Lib.hid hn
          have Hc := Lib.hid hc
          clear hn hc
          cases hcs : Pl.spaces.contains c
          · have HAu := Lib.hid (show u.data.toList = A by
              rw [← HKu.out, hsp.out, trimRight_snoc, hcs, if_neg (by simp)])
            have HC := Lib.hid hcs
            clear hcs
            obtain ⟨w2, hmk, hrow, hbw, hz2⟩ := make_bytes (P := Tryd.prog) Tryd.underlying69 infoByte u.size (by omega) w
            obtain ⟨g, hg⟩ : ∃ g, w.heap.size = g := ⟨_, rfl⟩
            rw [hg] at hmk hrow hbw hz2
            have Hg := Lib.hid hg
            clear hg
            go_wp2_with (go_at_call 67; refine (space_any _ _).mono ?_; rintro e w1 ⟨rfl, hw⟩; subst hw; rw [Hc.out, HC.out])
            clear hmk
            go_loopw [37] (fun i wr => Below g w wr ∧ ∃ k : Nat, k ≤ u.size ∧ i = .int .i64 k ∧ BRow wr g (fresh k u.data.toList)) (fun i _ => u.size - (intOf i).toNat)
            case atStart => exact ⟨hbw, 0, by omega, rfl, by rw [fresh_zero, ← Lib.size_eq]; exact hrow⟩
            case round =>
              obtain ⟨hb, k, hk, rfl, hr⟩ := hrel
              by_cases hlt : k < u.size
              · obtain ⟨x, hx⟩ : ∃ x, u[k]'hlt = x := ⟨_, rfl⟩
                have hlen : k < u.data.toList.length := by rw [← Lib.size_eq]; exact hlt
                have hx2 : u.data.toList[k] = x := by rw [← hx]; rfl
                have HS1 := Lib.hid (fresh_set k u.data.toList hlen)
                rw [hx2] at HS1
                have hfl : k < (fresh k u.data.toList).length := by rw [fresh_len _ _ (Nat.le_of_lt hlen)]; exact hlen
                obtain ⟨hcell, hfr⟩ := hr.at_ k hfl
                have hset := hr.set_ k x hfl
                clear hx2
                have hx256 : x.toNat < 256 := x.toNat_lt
                have hgle : g ≤ g := Nat.le_refl g
                by_cases h1 : 65 ≤ x.toNat
                · by_cases h2 : x.toNat ≤ 90
                  · have HU := Lib.hid (show ((Pl.small x).toNat : Int) = (x.toNat : Int) + 32 by rw [Pl.small_up h1 h2]; omega)
                    have hset2 := hset.set_ k (Pl.small x) (by rw [List.length_set]; exact hfl)
                    rw [List.set_set, HS1.out, HU.out] at hset2
                    have HH := Lib.hid hset2
                    have HW := Lib.hid ((hb.setCell (p := ⟨g, k, none⟩) hgle (.int .u8 (x.toNat : Int))).setCell (p := ⟨g, k, none⟩) hgle (.int .u8 ((x.toNat : Int) + 32)))
                    clear hset hset2
                    go_wp2_with fail
                    go_roundw
                    case rel => exact ⟨HW.out, k + 1, by omega, by go_num, HH.out⟩
                    case measure => simp [intOf]; omega
                  · rw [Pl.small_no (by omega)] at HS1
                    rw [HS1.out] at hset
                    have HH := Lib.hid hset
                    have HW := Lib.hid (hb.setCell (p := ⟨g, k, none⟩) hgle (.int .u8 (x.toNat : Int)))
                    clear hset
                    go_wp2_with fail
                    go_roundw
                    case rel => exact ⟨HW.out, k + 1, by omega, by go_num, HH.out⟩
                    case measure => simp [intOf]; omega
                · rw [Pl.small_no (by omega)] at HS1
                  rw [HS1.out] at hset
                  have HH := Lib.hid hset
                  have HW := Lib.hid (hb.setCell (p := ⟨g, k, none⟩) hgle (.int .u8 (x.toNat : Int)))
                  clear hset
                  go_wp2_with fail
                  go_roundw
                  case rel => exact ⟨HW.out, k + 1, by omega, by go_num, HH.out⟩
                  case measure => simp [intOf]; omega
              · obtain rfl : k = u.size := by omega
                have hback := conv_back (P := Tryd.prog) (cap := u.size) Tryd.underlying69 Tryd.underlying5 Tryd.underlying9 hr (by rw [fresh_len _ _ (by rw [← Lib.size_eq]; omega), ← Lib.size_eq])
                go_wp2
                go_ret
                exact ⟨ret_str (by rw [Lib.size_eq, fresh_all, HAu.out]), by rw [Hg.out]; exact hb⟩
          · have HC := Lib.hid hcs
            have h0 : 0 < n := by
              rcases Nat.eq_zero_or_pos n with rfl | h
              · have h1 := HU0.out
                rw [hsp.out, List.take_zero, List.nil_append] at h1
                injection h1 with h1
                rw [h1, HS.out] at hcs
                cases hcs
              · exact h
            have HR := Lib.hid (show Lib.trimRightS (u.data.toList.take n) Pl.spaces = A by
              rw [← HKu.out, hsp.out, trimRight_snoc, hcs, if_pos rfl, List.take_left' (by simp; omega)])
            clear hcs
            go_wp2_with (go_at_call 67; refine (space_any _ _).mono ?_; rintro e w1 ⟨rfl, hw⟩; subst hw; rw [Hc.out, HC.out])
            go_roundw
            case rel =>
              refine ⟨trivial, u.extract 0 n, ?_, ?_, ?_, ?_⟩
              · rfl
              · simp; omega
              · rw [extract_front]
                show Hid ((u.data.toList.take n)[0]? = some b)
                rw [List.getElem?_take, if_pos h0]
                exact HU0
              · rw [extract_front]
                exact HR
            case measure => simp [szOf]; omega
      · have ht0 : t = ⟨#[]⟩ := by
          rcases t with ⟨⟨l⟩⟩
          have : l.length = 0 := by
            have : ¬ 0 < l.length := hz
            omega
          rw [List.eq_nil_of_length_eq_zero this]
        subst ht0
        have hA : A = [] := HK.out.symm
        subst hA
        clear hgo hz
        obtain ⟨w2, hmk, hrow, hbw, hz2⟩ := make_bytes (P := Tryd.prog) Tryd.underlying69 infoByte 0 (by omega) w
        have hmk' : (Instr.makeSlice 69 (.int .i64 0) (.int .i64 0)).run Tryd.prog w = .ok (.slice (some ⟨w.heap.size, 0, none⟩) 0 0) w2 := hmk
        have hback := conv_back (P := Tryd.prog) (cap := 0) (n := 0) Tryd.underlying69 Tryd.underlying5 Tryd.underlying9 (l := []) hrow rfl
        clear hmk
        go_wp2
        refine wp_loop_rounds 1 ?_
        rw [rounds_succ]
        go_wp2
        refine wp_loop_rounds 1 ?_
        rw [rounds_succ]
        go_wp2
        go_ret
        exact ⟨rfl, hbw⟩
end Go.Proofs.YtefohnbmifblkaaDoor
