/-
  Plain: the references' decoding, piece by piece, tells what the decoder tells byte by byte.
-/
import Derived.Test.YtefohnbmifblkaaDoorPlD
namespace Go.Proofs.YtefohnbmifblkaaDoor.Pl

def dD (e : Int) (s : St) (l : List UInt8) : List Int := (dFeed e s l).2 ++ dEnd (dFeed e s l).1
theorem dD_nil (e : Int) (s : St) : dD e s [] = dEnd s := rfl
theorem dD_cons (e : Int) (s : St) (c : UInt8) (l : List UInt8) : dD e s (c :: l) = (dStep e s c).2 ++ dD e (dStep e s c).1 l := by
  show (_ ++ _) ++ _ = _
  rw [List.append_assoc]
  rfl
theorem dD_whole (e : Int) (l : List UInt8) : dD e st0 l = dWhole e l := rfl
/-- between two pieces. -/
def stM (m : Int) : St := ⟨0, 0, 0, 0, [], 0, m⟩
theorem stM0 : stM 0 = st0 := rfl

/-- the bytes behind a first one of several. -/
def pTail : Nat → Int → Int → Int → List UInt8 → List Int × Nat
  | 0, code, _, _, _ => ([code], 0)
  | _ + 1, _, _, _, [] => ([-1], 0)
  | k + 1, code, lo, hi, c :: l =>
    if lo ≤ byte c ∧ byte c ≤ hi then ((pTail k (64 * code + byte c - 128) 128 191 l).1, (pTail k (64 * code + byte c - 128) 128 191 l).2 + 1)
    else ([-1], 0)
def pUtf : List UInt8 → List Int × Nat
  | [] => ([], 0)
  | b :: r =>
    if byte b < 128 then ([byte b], 1)
    else if 194 ≤ byte b ∧ byte b ≤ 223 then ((pTail 1 (byte b % 32) 128 191 r).1, (pTail 1 (byte b % 32) 128 191 r).2 + 1)
    else if 224 ≤ byte b ∧ byte b ≤ 239 then ((pTail 2 (byte b % 16) (if byte b = 224 then 160 else 128) (if byte b = 237 then 159 else 191) r).1, (pTail 2 (byte b % 16) (if byte b = 224 then 160 else 128) (if byte b = 237 then 159 else 191) r).2 + 1)
    else if 240 ≤ byte b ∧ byte b ≤ 244 then ((pTail 3 (byte b % 8) (if byte b = 240 then 144 else 128) (if byte b = 244 then 143 else 191) r).1, (pTail 3 (byte b % 8) (if byte b = 240 then 144 else 128) (if byte b = 244 then 143 else 191) r).2 + 1)
    else ([-1], 1)
def pTwin : List UInt8 → List Int × Nat
  | [] => ([], 0)
  | b :: r =>
    if byte b < 128 then ([byte b], 1)
    else if 161 ≤ byte b ∧ byte b ≤ 223 then ([65377 + byte b - 161], 1)
    else if ¬ (129 ≤ byte b ∧ byte b ≤ 159) then ([-1], 1)
    else match r with
      | [] => ([-1], 1)
      | x :: _ =>
        if 64 ≤ byte x ∧ byte x ≤ 126 then ([19968 + 188 * (byte b - 129) + byte x - 64], 2)
        else if 128 ≤ byte x ∧ byte x ≤ 252 then ([19968 + 188 * (byte b - 129) + byte x - 65], 2)
        else if 128 ≤ byte x then ([-1], 2)
        else ([-1], 1)
def pLatin : List UInt8 → List Int × Nat
  | [] => ([], 0)
  | b :: _ =>
    if byte b = 129 ∨ byte b = 141 ∨ byte b = 143 ∨ byte b = 144 ∨ byte b = 157 then ([-1], 1)
    else if 128 ≤ byte b ∧ byte b ≤ 159 then ([8192 + byte b], 1)
    else ([byte b], 1)
def unit (low : Bool) (x y : UInt8) : Int := if low then 256 * byte y + byte x else 256 * byte x + byte y
def pPairs (low : Bool) : List UInt8 → List Int × Nat
  | [] => ([], 0)
  | [_] => ([-1], 1)
  | x :: y :: r =>
    if 56320 ≤ unit low x y ∧ unit low x y ≤ 57343 then ([-1], 2)
    else if ¬ (55296 ≤ unit low x y ∧ unit low x y ≤ 56319) then ([unit low x y], 2)
    else match r with
      | [] => ([-1], 2)
      | [_] => ([-1], 3)
      | z :: t :: _ => if 56320 ≤ unit low z t ∧ unit low z t ≤ 57343 then ([65536 + 1024 * (unit low x y - 55296) + unit low z t - 56320], 4) else ([-1], 2)
def pShift (m : Int) : List UInt8 → List Int × Nat × Int
  | [] => ([], 0, m)
  | b :: r =>
    if [27, 40, 66].isPrefixOf (b :: r) = true then ([], 3, 0)
    else if [27, 36, 66].isPrefixOf (b :: r) = true then ([], 3, 1)
    else if byte b = 27 then ([-1], 1, m)
    else if m = 0 ∧ (127 < byte b ∨ byte b = 14 ∨ byte b = 15) then ([-1], 1, 0)
    else if m = 0 then ([byte b], 1, 0)
    else if byte b = 10 then ([10], 1, 0)
    else if ¬ (33 ≤ byte b ∧ byte b ≤ 126) then ([-1], 1, 1)
    else match r with
      | [] => ([-1], 1, 1)
      | x :: _ =>
        if 33 ≤ byte x ∧ byte x ≤ 126 then ([12288 + 94 * (byte b - 33) + byte x - 33], 2, 1)
        else if byte x = 27 then ([-1], 1, 1)
        else ([-1], 2, 1)

theorem byte_lt (c : UInt8) : 0 ≤ byte c ∧ byte c < 256 := by
  have := c.toNat_lt
  unfold byte
  omega
theorem byte_nat (c : UInt8) : byte c = (c.toNat : Int) := rfl

/-- one take, where a byte is not taken again. -/
theorem step_one (e : Int) (s : St) (c : UInt8) (h : (dOne e s c).2.2 = false) : dStep e s c = ((dOne e s c).1, (dOne e s c).2.1) := by
  unfold dStep dTake
  rw [h]
  simp
/-- a byte that is taken again behind a state in which it is taken once. -/
theorem step_two (e : Int) (s s' : St) (c : UInt8) (o : List Int) (h : dOne e s c = (s', o, true)) (h2 : (dOne e s' c).2.2 = false) : dStep e s c = ((dStep e s' c).1, o ++ (dStep e s' c).2) := by
  rw [step_one e s' c h2]
  unfold dStep dTake
  rw [h]
  simp only [if_true]
  unfold dTake
  rw [h2]
  simp

theorem one1 (s : St) (c : UInt8) : dOne 1 s c = dUtf s c := by unfold dOne; rw [if_pos rfl]
theorem one2 (s : St) (c : UInt8) : dOne 2 s c = dShift s c := by unfold dOne; rw [if_neg (by decide), if_pos rfl]
theorem one3 (s : St) (c : UInt8) : dOne 3 s c = dTwin s c := by unfold dOne; rw [if_neg (by decide), if_neg (by decide), if_pos rfl]
theorem one4 (s : St) (c : UInt8) : dOne 4 s c = (s, [dLatin c], false) := by unfold dOne; rw [if_neg (by decide), if_neg (by decide), if_neg (by decide), if_pos rfl]
theorem one5 (e : Int) (he : e = 5 ∨ e = 6) (s : St) (c : UInt8) : dOne e s c = dPairs (e == 5) s c := by unfold dOne; rw [if_neg (by omega), if_neg (by omega), if_neg (by omega), if_neg (by omega)]

theorem utf_zero_again (c : UInt8) : (dUtf st0 c).2.2 = false := by
  unfold dUtf
  rw [if_pos (show st0.need = 0 from rfl)]
  repeat' split
  all_goals rfl

theorem tail_ok : ∀ (k : Nat) (code lo hi : Int) (l : List UInt8), k ≤ 3 → 128 ≤ lo → hi ≤ 191 → 0 < k →
    dD 1 ⟨k, code, lo, hi, [], 0, 0⟩ l = (pTail k code lo hi l).1 ++ dD 1 st0 (l.drop (pTail k code lo hi l).2)
  | 0, _, _, _, _, _, _, _, h => absurd h (by omega)
  | k + 1, code, lo, hi, [], _, _, _, _ => by
    have h : (0 : Int) < ((k + 1 : Nat) : Int) := by omega
    have e : dEnd ⟨((k + 1 : Nat) : Int), code, lo, hi, [], 0, 0⟩ = [-1] := by
      unfold dEnd
      dsimp only
      rw [if_pos (Or.inl h)]
      rfl
    exact e
  | k + 1, code, lo, hi, c :: l, hk, hlo, hhi, _ => by
    rw [dD_cons]
    have hb := byte_lt c
    have hn : ¬ ((k + 1 : Nat) : Int) = 0 := by omega
    by_cases hc : lo ≤ byte c ∧ byte c ≤ hi
    · have e2 : pTail (k + 1) code lo hi (c :: l) = ((pTail k (64 * code + byte c - 128) 128 191 l).1, (pTail k (64 * code + byte c - 128) 128 191 l).2 + 1) := by
        show (if _ then _ else _) = _
        rw [if_pos hc]
      rw [e2]
      have hcode : code * 64 + byte c % 64 = 64 * code + byte c - 128 := by omega
      have hno : ¬ (byte c < lo ∨ hi < byte c) := by omega
      show _ = _ ++ dD 1 st0 (l.drop _)
      by_cases hk1 : k = 0
      · subst hk1
        have e1 : dOne 1 ⟨((0 + 1 : Nat) : Int), code, lo, hi, [], 0, 0⟩ c = (st0, [64 * code + byte c - 128], false) := by
          rw [one1]
          unfold dUtf
          rw [if_neg hn, if_neg hno, if_pos (by rfl)]
          dsimp only
          rw [hcode]
        rw [step_one _ _ _ (by rw [e1]), e1]
        rfl
      · have e1 : dOne 1 ⟨((k + 1 : Nat) : Int), code, lo, hi, [], 0, 0⟩ c = (⟨(k : Int), 64 * code + byte c - 128, 128, 191, [], 0, 0⟩, [], false) := by
          rw [one1]
          unfold dUtf
          rw [if_neg hn, if_neg hno, if_neg (by dsimp only; omega)]
          dsimp only
          rw [hcode, show ((k + 1 : Nat) : Int) - 1 = (k : Int) by omega]
        rw [step_one _ _ _ (by rw [e1]), e1]
        dsimp only
        rw [List.nil_append]
        exact tail_ok k _ _ _ l (by omega) (by omega) (by omega) (by omega)
    · have e2 : pTail (k + 1) code lo hi (c :: l) = ([-1], 0) := by
        show (if _ then _ else _) = _
        rw [if_neg hc]
      rw [e2]
      have e1 : dOne 1 ⟨((k + 1 : Nat) : Int), code, lo, hi, [], 0, 0⟩ c = (st0, [-1], true) := by
        rw [one1]
        unfold dUtf
        rw [if_neg hn, if_pos (show byte c < lo ∨ hi < byte c by omega)]
      rw [step_two 1 _ st0 c [-1] e1 (by rw [one1]; exact utf_zero_again c)]
      show ([-1] ++ _) ++ _ = [-1] ++ dD 1 st0 (c :: l)
      rw [dD_cons, List.append_assoc]

theorem pTail_le : ∀ (k : Nat) (code lo hi : Int) (l : List UInt8), (pTail k code lo hi l).2 ≤ l.length
  | 0, _, _, _, _ => Nat.zero_le _
  | _ + 1, _, _, _, [] => Nat.zero_le _
  | k + 1, code, lo, hi, c :: l => by
    have h := pTail_le k (64 * code + byte c - 128) 128 191 l
    show (if _ then _ else _ : List Int × Nat).2 ≤ _
    split
    · simpa using h
    · exact Nat.zero_le _

theorem utf_piece (b : UInt8) (r : List UInt8) : dD 1 st0 (b :: r) = (pUtf (b :: r)).1 ++ dD 1 st0 ((b :: r).drop (pUtf (b :: r)).2) := by
  have hb := byte_lt b
  rw [dD_cons, step_one _ _ _ (by rw [one1]; exact utf_zero_again b), one1]
  unfold dUtf pUtf
  rw [if_pos (show st0.need = 0 from rfl)]
  dsimp only
  by_cases h1 : byte b < 128
  · rw [if_pos (show b.toNat < 128 by rw [byte_nat] at h1; omega), if_pos h1]
    rfl
  rw [if_neg (show ¬ b.toNat < 128 by rw [byte_nat] at h1; omega), if_neg h1]
  by_cases h2 : 194 ≤ byte b ∧ byte b ≤ 223
  · rw [if_pos (show 194 ≤ b.toNat ∧ b.toNat ≤ 223 by rw [byte_nat] at h2; omega), if_pos h2]
    dsimp only
    rw [List.nil_append, List.drop_succ_cons]
    exact tail_ok 1 _ _ _ r (by omega) (by omega) (by omega) (by omega)
  rw [if_neg (show ¬ (194 ≤ b.toNat ∧ b.toNat ≤ 223) by rw [byte_nat] at h2; omega), if_neg h2]
  by_cases h3 : 224 ≤ byte b ∧ byte b ≤ 239
  · rw [if_pos (show 224 ≤ b.toNat ∧ b.toNat ≤ 239 by rw [byte_nat] at h3; omega), if_pos h3]
    dsimp only
    rw [List.nil_append, List.drop_succ_cons]
    have e1 : (if b.toNat = 224 then (160 : Int) else 128) = if byte b = 224 then 160 else 128 := by
      by_cases h : b.toNat = 224
      · rw [if_pos h, if_pos (by rw [byte_nat]; omega)]
      · rw [if_neg h, if_neg (by rw [byte_nat]; omega)]
    have e2 : (if b.toNat = 237 then (159 : Int) else 191) = if byte b = 237 then 159 else 191 := by
      by_cases h : b.toNat = 237
      · rw [if_pos h, if_pos (by rw [byte_nat]; omega)]
      · rw [if_neg h, if_neg (by rw [byte_nat]; omega)]
    rw [e1, e2]
    exact tail_ok 2 _ _ _ r (by omega) (by split <;> omega) (by split <;> omega) (by omega)
  rw [if_neg (show ¬ (224 ≤ b.toNat ∧ b.toNat ≤ 239) by rw [byte_nat] at h3; omega), if_neg h3]
  by_cases h4 : 240 ≤ byte b ∧ byte b ≤ 244
  · rw [if_pos (show 240 ≤ b.toNat ∧ b.toNat ≤ 244 by rw [byte_nat] at h4; omega), if_pos h4]
    dsimp only
    rw [List.nil_append, List.drop_succ_cons]
    have e1 : (if b.toNat = 240 then (144 : Int) else 128) = if byte b = 240 then 144 else 128 := by
      by_cases h : b.toNat = 240
      · rw [if_pos h, if_pos (by rw [byte_nat]; omega)]
      · rw [if_neg h, if_neg (by rw [byte_nat]; omega)]
    have e2 : (if b.toNat = 244 then (143 : Int) else 191) = if byte b = 244 then 143 else 191 := by
      by_cases h : b.toNat = 244
      · rw [if_pos h, if_pos (by rw [byte_nat]; omega)]
      · rw [if_neg h, if_neg (by rw [byte_nat]; omega)]
    rw [e1, e2]
    exact tail_ok 3 _ _ _ r (by omega) (by split <;> omega) (by split <;> omega) (by omega)
  rw [if_neg (show ¬ (240 ≤ b.toNat ∧ b.toNat ≤ 244) by rw [byte_nat] at h4; omega), if_neg h4]
  rfl

theorem twin_nil (c : UInt8) : dOne 3 st0 c = if c.toNat < 128 then (st0, [byte c], false) else if 129 ≤ c.toNat ∧ c.toNat ≤ 159 then (⟨0, 0, 0, 0, [c], 0, 0⟩, [], false) else if 161 ≤ c.toNat ∧ c.toNat ≤ 223 then (st0, [65377 + byte c - 161], false) else (st0, [-1], false) := by
  rw [one3]
  rfl
theorem twin_lead (l c : UInt8) : dOne 3 ⟨0, 0, 0, 0, [l], 0, 0⟩ c = if 64 ≤ c.toNat ∧ c.toNat ≤ 126 then (st0, [19968 + (byte l - 129) * 188 + byte c - 64], false) else if 128 ≤ c.toNat ∧ c.toNat ≤ 252 then (st0, [19968 + (byte l - 129) * 188 + byte c - 65], false) else (st0, [-1], decide (c.toNat < 128)) := by
  rw [one3]
  rfl
theorem twin_nil_again (c : UInt8) : (dOne 3 st0 c).2.2 = false := by
  rw [twin_nil]
  repeat' split
  all_goals rfl
theorem twin_piece (b : UInt8) (r : List UInt8) : dD 3 st0 (b :: r) = (pTwin (b :: r)).1 ++ dD 3 st0 ((b :: r).drop (pTwin (b :: r)).2) := by
  have hb := byte_lt b
  rw [dD_cons, step_one _ _ _ (twin_nil_again b), twin_nil]
  unfold pTwin
  dsimp only
  by_cases h1 : byte b < 128
  · rw [if_pos (show b.toNat < 128 by rw [byte_nat] at h1; omega), if_pos h1]
    rfl
  rw [if_neg (show ¬ b.toNat < 128 by rw [byte_nat] at h1; omega), if_neg h1]
  by_cases h2 : 161 ≤ byte b ∧ byte b ≤ 223
  · rw [if_neg (show ¬ (129 ≤ b.toNat ∧ b.toNat ≤ 159) by rw [byte_nat] at h2; omega), if_pos (show 161 ≤ b.toNat ∧ b.toNat ≤ 223 by rw [byte_nat] at h2; omega), if_pos h2]
    rfl
  rw [if_neg h2]
  by_cases h3 : 129 ≤ byte b ∧ byte b ≤ 159
  · rw [if_pos (show 129 ≤ b.toNat ∧ b.toNat ≤ 159 by rw [byte_nat] at h3; omega), if_neg (show ¬ ¬ (129 ≤ byte b ∧ byte b ≤ 159) from fun h => h h3)]
    cases r with
    | nil => rfl
    | cons x r =>
      have hx := byte_lt x
      dsimp only
      rw [List.nil_append, dD_cons]
      by_cases h4 : 64 ≤ byte x ∧ byte x ≤ 126
      · have e1 : dOne 3 ⟨0, 0, 0, 0, [b], 0, 0⟩ x = (st0, [19968 + (byte b - 129) * 188 + byte x - 64], false) := by
          rw [twin_lead, if_pos (by rw [byte_nat] at h4; omega)]
        rw [step_one _ _ _ (by rw [e1]), e1, if_pos h4, Int.mul_comm (byte b - 129)]
        rfl
      rw [if_neg h4]
      by_cases h5 : 128 ≤ byte x ∧ byte x ≤ 252
      · have e1 : dOne 3 ⟨0, 0, 0, 0, [b], 0, 0⟩ x = (st0, [19968 + (byte b - 129) * 188 + byte x - 65], false) := by
          rw [twin_lead, if_neg (by rw [byte_nat] at h4; omega), if_pos (by rw [byte_nat] at h5; omega)]
        rw [step_one _ _ _ (by rw [e1]), e1, if_pos h5, Int.mul_comm (byte b - 129)]
        rfl
      rw [if_neg h5]
      by_cases h6 : 128 ≤ byte x
      · have e1 : dOne 3 ⟨0, 0, 0, 0, [b], 0, 0⟩ x = (st0, [-1], false) := by
          rw [twin_lead, if_neg (by rw [byte_nat] at h4; omega), if_neg (by rw [byte_nat] at h5; omega), decide_eq_false (by rw [byte_nat] at h6; omega)]
        rw [step_one _ _ _ (by rw [e1]), e1, if_pos h6]
        rfl
      · have e1 : dOne 3 ⟨0, 0, 0, 0, [b], 0, 0⟩ x = (st0, [-1], true) := by
          rw [twin_lead, if_neg (by rw [byte_nat] at h4; omega), if_neg (by rw [byte_nat] at h5; omega), decide_eq_true (by rw [byte_nat] at h6; omega)]
        rw [step_two 3 _ st0 x [-1] e1 (twin_nil_again x), if_neg h6]
        show ([-1] ++ _) ++ _ = [-1] ++ dD 3 st0 (x :: r)
        rw [dD_cons, List.append_assoc]
  · rw [if_neg (show ¬ (129 ≤ b.toNat ∧ b.toNat ≤ 159) by rw [byte_nat] at h3; omega), if_neg (show ¬ (161 ≤ b.toNat ∧ b.toNat ≤ 223) by rw [byte_nat] at h2; omega), if_pos h3]
    rfl

theorem latin_piece (b : UInt8) (r : List UInt8) : dD 4 st0 (b :: r) = (pLatin (b :: r)).1 ++ dD 4 st0 ((b :: r).drop (pLatin (b :: r)).2) := by
  have hb := byte_lt b
  rw [dD_cons, step_one _ _ _ (by rw [one4]), one4]
  unfold pLatin dLatin
  dsimp only
  by_cases h1 : byte b = 129 ∨ byte b = 141 ∨ byte b = 143 ∨ byte b = 144 ∨ byte b = 157
  · rw [if_pos h1, if_pos (by rw [byte_nat] at h1; omega)]
    rfl
  rw [if_neg h1, if_neg (by rw [byte_nat] at h1; omega)]
  by_cases h2 : 128 ≤ byte b ∧ byte b ≤ 159
  · rw [if_pos h2, if_pos (by rw [byte_nat] at h2; omega)]
    rfl
  · rw [if_neg h2, if_neg (by rw [byte_nat] at h2; omega)]
    rfl

theorem unit_low (x y : UInt8) : (if (true : Bool) then byte y * 256 + byte x else byte x * 256 + byte y : Int) = unit true x y := by
  unfold unit
  rw [if_pos rfl, if_pos rfl]
  omega
/-- the pairs at a unit that is whole. -/
theorem pairs_unit (low : Bool) (h : Int) (l c : UInt8) : dPairs low ⟨0, 0, 0, 0, [l], h, 0⟩ c =
    if h ≠ 0 then
      if 56320 ≤ unit low l c ∧ unit low l c ≤ 57343 then (st0, [65536 + (h - 55296) * 1024 + unit low l c - 56320], false)
      else if 55296 ≤ unit low l c ∧ unit low l c ≤ 56319 then (⟨0, 0, 0, 0, [], unit low l c, 0⟩, [-1], false)
      else (st0, [-1, unit low l c], false)
    else
      if 55296 ≤ unit low l c ∧ unit low l c ≤ 56319 then (⟨0, 0, 0, 0, [], unit low l c, 0⟩, [], false)
      else if 56320 ≤ unit low l c ∧ unit low l c ≤ 57343 then (st0, [-1], false)
      else (st0, [unit low l c], false) := by
  have e : (if low = true then byte c * 256 + byte l else byte l * 256 + byte c : Int) = unit low l c := by
    unfold unit
    split <;> omega
  unfold dPairs
  dsimp only
  rw [e]
  rfl
theorem pairs_again (low : Bool) (h : Int) (l c : UInt8) : (dPairs low ⟨0, 0, 0, 0, [l], h, 0⟩ c).2.2 = false := by
  rw [pairs_unit]
  repeat' split
  all_goals rfl
theorem pairs_first (e : Int) (he : e = 5 ∨ e = 6) (h : Int) (x : UInt8) (l : List UInt8) : dD e ⟨0, 0, 0, 0, [], h, 0⟩ (x :: l) = dD e ⟨0, 0, 0, 0, [x], h, 0⟩ l := by
  have e1 : dOne e ⟨0, 0, 0, 0, [], h, 0⟩ x = (⟨0, 0, 0, 0, [x], h, 0⟩, [], false) := by
    rw [one5 e he]
    exact pairs_nil _ h x
  rw [dD_cons, step_one _ _ _ (by rw [e1]), e1]
  rfl
theorem pairs_second (e : Int) (he : e = 5 ∨ e = 6) (h : Int) (x y : UInt8) (l : List UInt8) : dD e ⟨0, 0, 0, 0, [x], h, 0⟩ (y :: l) = (dPairs (e == 5) ⟨0, 0, 0, 0, [x], h, 0⟩ y).2.1 ++ dD e (dPairs (e == 5) ⟨0, 0, 0, 0, [x], h, 0⟩ y).1 l := by
  rw [dD_cons, step_one _ _ _ (by rw [one5 e he]; exact pairs_again _ _ _ _), one5 e he]
theorem pairs_piece (e : Int) (he : e = 5 ∨ e = 6) (b : UInt8) (r : List UInt8) : dD e st0 (b :: r) = (pPairs (e == 5) (b :: r)).1 ++ dD e st0 ((b :: r).drop (pPairs (e == 5) (b :: r)).2) := by
  rw [show st0 = ⟨0, 0, 0, 0, [], 0, 0⟩ from rfl, pairs_first e he 0]
  cases r with
  | nil => rfl
  | cons y r =>
    rw [pairs_second e he, pairs_unit]
    have hF := pairs_first e he
    have hS := pairs_second e he
    generalize (e == 5) = low at hS ⊢
    simp only [ne_eq, not_true_eq_false, if_false]
    unfold pPairs
    dsimp only
    by_cases h1 : 56320 ≤ unit low b y ∧ unit low b y ≤ 57343
    · rw [if_neg (show ¬ (55296 ≤ unit low b y ∧ unit low b y ≤ 56319) by omega), if_pos h1, if_pos h1]
      rfl
    rw [if_neg h1]
    by_cases h2 : 55296 ≤ unit low b y ∧ unit low b y ≤ 56319
    · rw [if_pos h2, if_neg h1, if_neg (show ¬ ¬ (55296 ≤ unit low b y ∧ unit low b y ≤ 56319) from fun h => h h2)]
      generalize unit low b y = u at h1 h2 ⊢
      have hu : u ≠ 0 := by omega
      match r with
      | [] =>
        have e1 : dEnd ⟨0, 0, 0, 0, [], u, 0⟩ = [-1] := by
          unfold dEnd
          dsimp only
          rw [if_pos (Or.inr (Or.inl hu))]
          rfl
        exact e1
      | [z] =>
        have e1 : dEnd ⟨0, 0, 0, 0, [z], u, 0⟩ = [-1] := by
          unfold dEnd
          dsimp only
          rw [if_pos (Or.inr (Or.inl hu))]
          rfl
        show [] ++ dD e ⟨0, 0, 0, 0, [], u, 0⟩ [z] = [-1] ++ []
        rw [hF u]
        exact e1
      | z :: t :: r =>
        show [] ++ dD e ⟨0, 0, 0, 0, [], u, 0⟩ (z :: t :: r) = _
        rw [List.nil_append, hF u, hS, pairs_unit, if_pos hu]
        dsimp only
        by_cases h3 : 56320 ≤ unit low z t ∧ unit low z t ≤ 57343
        · rw [if_pos h3, if_pos h3, Int.mul_comm (u - 55296)]
          rfl
        · rw [if_neg h3, if_neg h3]
          show _ = [-1] ++ dD e ⟨0, 0, 0, 0, [], 0, 0⟩ (z :: t :: r)
          rw [hF 0, hS, pairs_unit, if_neg (show ¬ ((0 : Int) ≠ 0) from fun h => h rfl)]
          by_cases h4 : 55296 ≤ unit low z t ∧ unit low z t ≤ 56319
          · rw [if_pos h4, if_pos h4]
            rfl
          · rw [if_neg h4, if_neg h4, if_neg h3]
            rfl
    · rw [if_neg h2, if_neg h1, if_pos h2]
      rfl

theorem shift_two_any (c x : UInt8) (m : Int) (hm : m = 0 ∨ m = 1) (hc : c = 40 ∨ c = 36) : dShift ⟨0, 0, 0, 0, [27, c], 0, m⟩ x = if x.toNat = 66 then (stM (if c = 40 then 0 else 1), [], false) else if m = 0 then (stM 0, [-1, byte c], true) else (⟨0, 0, 0, 0, [c], 0, 1⟩, [-1], true) := by
  rcases hm with rfl | rfl <;> rcases hc with rfl | rfl
  · rw [shift_two0]; rfl
  · rw [shift_dol0]; rfl
  · rw [shift_two1]; rfl
  · rw [shift_dol1]; rfl
theorem shift_lead_again (l c : UInt8) (h : 33 ≤ l.toNat) : (dShift ⟨0, 0, 0, 0, [l], 0, 1⟩ c).2.2 = false := by
  rw [shift_lead l c h]
  repeat' split
  all_goals rfl
theorem shift_nil_again (m : Int) (hm : m = 0 ∨ m = 1) (c : UInt8) : (dShift (stM m) c).2.2 = false := by
  rcases hm with rfl | rfl
  · rw [show stM 0 = ⟨0, 0, 0, 0, [], 0, 0⟩ from rfl, shift_nil0]
    repeat' split
    all_goals rfl
  · rw [show stM 1 = ⟨0, 0, 0, 0, [], 0, 1⟩ from rfl, shift_nil1]
    repeat' split
    all_goals rfl
theorem esc_first (m : Int) (hm : m = 0 ∨ m = 1) (r : List UInt8) : dD 2 (stM m) (27 :: r) = dD 2 ⟨0, 0, 0, 0, [27], 0, m⟩ r := by
  have e1 : dOne 2 (stM m) 27 = (⟨0, 0, 0, 0, [27], 0, m⟩, [], false) := by
    rw [one2]
    rcases hm with rfl | rfl
    · rw [show stM 0 = ⟨0, 0, 0, 0, [], 0, 0⟩ from rfl, shift_nil0, if_pos (by decide)]
    · rw [show stM 1 = ⟨0, 0, 0, 0, [], 0, 1⟩ from rfl, shift_nil1, if_pos (by decide)]
  rw [dD_cons, step_one _ _ _ (by rw [e1]), e1]
  rfl
theorem lead_first (b : UInt8) (h : 33 ≤ byte b ∧ byte b ≤ 126) (r : List UInt8) : dD 2 (stM 1) (b :: r) = dD 2 ⟨0, 0, 0, 0, [b], 0, 1⟩ r := by
  have e1 : dOne 2 (stM 1) b = (⟨0, 0, 0, 0, [b], 0, 1⟩, [], false) := by
    rw [one2, show stM 1 = ⟨0, 0, 0, 0, [], 0, 1⟩ from rfl, shift_nil1, if_neg (by rw [byte_nat] at h; omega), if_neg (by rw [byte_nat] at h; omega), if_neg (by rw [byte_nat] at h; omega)]
  rw [dD_cons, step_one _ _ _ (by rw [e1]), e1]
  rfl
theorem plain_first (c : UInt8) (hc : c = 40 ∨ c = 36) (r : List UInt8) : dD 2 (stM 0) (c :: r) = byte c :: dD 2 (stM 0) r := by
  have e1 : dOne 2 (stM 0) c = (stM 0, [byte c], false) := by
    rw [one2, show stM 0 = ⟨0, 0, 0, 0, [], 0, 0⟩ from rfl, shift_nil0]
    rcases hc with rfl | rfl <;> rfl
  rw [dD_cons, step_one _ _ _ (by rw [e1]), e1]
  rfl
theorem pShift_cons (m : Int) (b : UInt8) (r : List UInt8) : pShift m (b :: r) =
    if [27, 40, 66].isPrefixOf (b :: r) = true then ([], 3, 0)
    else if [27, 36, 66].isPrefixOf (b :: r) = true then ([], 3, 1)
    else if byte b = 27 then ([-1], 1, m)
    else if m = 0 ∧ (127 < byte b ∨ byte b = 14 ∨ byte b = 15) then ([-1], 1, 0)
    else if m = 0 then ([byte b], 1, 0)
    else if byte b = 10 then ([10], 1, 0)
    else if ¬ (33 ≤ byte b ∧ byte b ≤ 126) then ([-1], 1, 1)
    else match r with
      | [] => ([-1], 1, 1)
      | x :: _ =>
        if 33 ≤ byte x ∧ byte x ≤ 126 then ([12288 + 94 * (byte b - 33) + byte x - 33], 2, 1)
        else if byte x = 27 then ([-1], 1, 1)
        else ([-1], 2, 1) := rfl
theorem pShift_esc (m : Int) (r : List UInt8) (h1 : [27, 40, 66].isPrefixOf ((27 : UInt8) :: r) = false) (h2 : [27, 36, 66].isPrefixOf ((27 : UInt8) :: r) = false) : pShift m (27 :: r) = ([-1], 1, m) := by
  rw [pShift_cons, h1, h2, if_neg (by simp), if_neg (by simp), if_pos (by decide)]

theorem shift_esc_piece (m : Int) (hm : m = 0 ∨ m = 1) (r : List UInt8) : dD 2 (stM m) (27 :: r) = (pShift m (27 :: r)).1 ++ dD 2 (stM (pShift m (27 :: r)).2.2) ((27 :: r).drop (pShift m (27 :: r)).2.1) := by
  rw [esc_first m hm]
  match r with
  | [] =>
    rw [pShift_esc m [] (by decide) (by decide)]
    rcases hm with rfl | rfl <;> rfl
  | c :: r =>
    by_cases hc : c = 40 ∨ c = 36
    · have e1 : dOne 2 ⟨0, 0, 0, 0, [27], 0, m⟩ c = (⟨0, 0, 0, 0, [27, c], 0, m⟩, [], false) := by
        rw [one2, shift_esc, if_pos (by rcases hc with rfl | rfl <;> decide)]
      rw [dD_cons, step_one _ _ _ (by rw [e1]), e1]
      dsimp only
      rw [List.nil_append]
      match r with
      | [] =>
        rw [pShift_esc m [c] (by simp [List.isPrefixOf]) (by simp [List.isPrefixOf])]
        rcases hm with rfl | rfl <;> rcases hc with rfl | rfl <;> rfl
      | x :: r =>
        by_cases hx : x = 66
        · subst hx
          rcases hc with rfl | rfl
          · have e2 : pShift m (27 :: 40 :: 66 :: r) = ([], 3, 0) := by
              rw [pShift_cons, if_pos (by simp [List.isPrefixOf])]
            have e3 : dOne 2 ⟨0, 0, 0, 0, [27, 40], 0, m⟩ 66 = (stM 0, [], false) := by
              rw [one2, shift_two_any 40 66 m hm (.inl rfl), if_pos (by decide)]
              rfl
            rw [e2, dD_cons, step_one _ _ _ (by rw [e3]), e3]
            rfl
          · have e2 : pShift m (27 :: 36 :: 66 :: r) = ([], 3, 1) := by
              rw [pShift_cons, if_neg (by simp [List.isPrefixOf]), if_pos (by simp [List.isPrefixOf])]
            have e3 : dOne 2 ⟨0, 0, 0, 0, [27, 36], 0, m⟩ 66 = (stM 1, [], false) := by
              rw [one2, shift_two_any 36 66 m hm (.inr rfl), if_pos (by decide)]
              rfl
            rw [e2, dD_cons, step_one _ _ _ (by rw [e3]), e3]
            rfl
        · have hx2 : ¬ x.toNat = 66 := fun h => hx (byte_eq x 66 (by decide) h)
          have hx3 : ((66 : UInt8) == x) = false := by rw [beq_eq_false_iff_ne]; exact fun h => hx h.symm
          rw [pShift_esc m (c :: x :: r) (by simp [List.isPrefixOf, hx3]) (by simp [List.isPrefixOf, hx3])]
          dsimp only
          have e3 := shift_two_any c x m hm hc
          rw [if_neg hx2] at e3
          show _ = [-1] ++ dD 2 (stM m) (c :: x :: r)
          rcases hm with rfl | rfl
          · rw [if_pos rfl] at e3
            rw [dD_cons, step_two 2 _ (stM 0) x [-1, byte c] (by rw [one2, e3]) (by rw [one2]; exact shift_nil_again 0 (.inl rfl) x), plain_first c hc, dD_cons]
            simp
          · rw [if_neg (by decide)] at e3
            have h33 : 33 ≤ c.toNat := by rcases hc with rfl | rfl <;> decide
            have h126 : 33 ≤ byte c ∧ byte c ≤ 126 := by rcases hc with rfl | rfl <;> decide
            rw [dD_cons, step_two 2 _ ⟨0, 0, 0, 0, [c], 0, 1⟩ x [-1] (by rw [one2, e3]) (by rw [one2]; exact shift_lead_again c x h33), lead_first c h126, dD_cons]
            simp
    · have h40 : c ≠ 40 := fun h => hc (.inl h)
      have h36 : c ≠ 36 := fun h => hc (.inr h)
      have b40 : ((40 : UInt8) == c) = false := by rw [beq_eq_false_iff_ne]; exact fun h => h40 h.symm
      have b36 : ((36 : UInt8) == c) = false := by rw [beq_eq_false_iff_ne]; exact fun h => h36 h.symm
      have e1 : dOne 2 ⟨0, 0, 0, 0, [27], 0, m⟩ c = (stM m, [-1], true) := by
        rw [one2, shift_esc, if_neg]
        · rfl
        · rintro (h | h)
          · exact h40 (byte_eq c 40 (by decide) h)
          · exact h36 (byte_eq c 36 (by decide) h)
      rw [pShift_esc m (c :: r) (by simp [List.isPrefixOf, b40]) (by simp [List.isPrefixOf, b36]), dD_cons, step_two 2 _ (stM m) c [-1] e1 (by rw [one2]; exact shift_nil_again m hm c)]
      show _ = [-1] ++ dD 2 (stM m) (c :: r)
      rw [dD_cons, List.append_assoc]

theorem shift_piece (m : Int) (hm : m = 0 ∨ m = 1) (b : UInt8) (r : List UInt8) : dD 2 (stM m) (b :: r) = (pShift m (b :: r)).1 ++ dD 2 (stM (pShift m (b :: r)).2.2) ((b :: r).drop (pShift m (b :: r)).2.1) := by
  by_cases hb27 : b = 27
  · subst hb27
    exact shift_esc_piece m hm r
  have hb := byte_lt b
  have h27 : ¬ byte b = 27 := fun h => hb27 (byte_eq b 27 (by decide) (by rw [byte_nat] at h; omega))
  have b27 : ((27 : UInt8) == b) = false := by rw [beq_eq_false_iff_ne]; exact fun h => hb27 h.symm
  have p1 : ∀ k : List UInt8, (27 :: k).isPrefixOf (b :: r) = false := fun k => by simp [List.isPrefixOf, b27]
  rw [pShift_cons, p1, p1, if_neg (by simp), if_neg (by simp), if_neg h27]
  rcases hm with rfl | rfl
  · have e1 : dOne 2 (stM 0) b = (stM 0, [if 128 ≤ b.toNat ∨ b.toNat = 14 ∨ b.toNat = 15 then -1 else byte b], false) := by
      rw [one2, show stM 0 = ⟨0, 0, 0, 0, [], 0, 0⟩ from rfl, shift_nil0, if_neg (by rw [byte_nat] at h27; omega)]
    rw [dD_cons, step_one _ _ _ (by rw [e1]), e1]
    by_cases h1 : 127 < byte b ∨ byte b = 14 ∨ byte b = 15
    · rw [if_pos (show (0 : Int) = 0 ∧ (127 < byte b ∨ byte b = 14 ∨ byte b = 15) from ⟨rfl, h1⟩), if_pos (by rw [byte_nat] at h1; omega)]
      rfl
    · rw [if_neg (show ¬ ((0 : Int) = 0 ∧ (127 < byte b ∨ byte b = 14 ∨ byte b = 15)) from fun h => h1 h.2), if_pos (show (0 : Int) = 0 from rfl), if_neg (by rw [byte_nat] at h1; omega)]
      rfl
  · rw [if_neg (fun h => absurd h.1 (by decide)), if_neg (by decide)]
    by_cases h10 : byte b = 10
    · have e1 : dOne 2 (stM 1) b = (st0, [10], false) := by
        rw [one2, show stM 1 = ⟨0, 0, 0, 0, [], 0, 1⟩ from rfl, shift_nil1, if_neg (by rw [byte_nat] at h27; omega), if_pos (by rw [byte_nat] at h10; omega)]
      rw [dD_cons, step_one _ _ _ (by rw [e1]), e1, if_pos h10]
      rfl
    rw [if_neg h10]
    by_cases h33 : 33 ≤ byte b ∧ byte b ≤ 126
    · rw [if_neg (fun h => h h33), lead_first b h33]
      have hn33 : 33 ≤ b.toNat := by rw [byte_nat] at h33; omega
      cases r with
      | nil => rfl
      | cons x r =>
        have hx := byte_lt x
        rw [dD_cons, step_one _ _ _ (by rw [one2]; exact shift_lead_again b x hn33), one2, shift_lead b x hn33]
        dsimp only
        by_cases hx1 : 33 ≤ byte x ∧ byte x ≤ 126
        · rw [if_pos hx1, if_neg (by rw [byte_nat] at hx1; omega), if_neg (by rw [byte_nat] at hx1; omega), Int.mul_comm (byte b - 33)]
          rfl
        rw [if_neg hx1]
        by_cases hx2 : byte x = 27
        · have : x = 27 := byte_eq x 27 (by decide) (by rw [byte_nat] at hx2; omega)
          subst this
          rw [if_pos (by decide), if_pos (by decide)]
          show [-1] ++ _ = [-1] ++ dD 2 (stM 1) (27 :: r)
          rw [esc_first 1 (.inr rfl)]
        · rw [if_neg hx2, if_neg (by rw [byte_nat] at hx2; omega), if_pos (by rw [byte_nat] at hx1; omega)]
          rfl
    · have e1 : dOne 2 (stM 1) b = (stM 1, [-1], false) := by
        rw [one2, show stM 1 = ⟨0, 0, 0, 0, [], 0, 1⟩ from rfl, shift_nil1, if_neg (by rw [byte_nat] at h27; omega), if_neg (by rw [byte_nat] at h10; omega), if_pos (by rw [byte_nat] at h33; omega)]
      rw [dD_cons, step_one _ _ _ (by rw [e1]), e1, if_pos h33]
      rfl

/-- a piece of encoding e. -/
def pPiece (e m : Int) (l : List UInt8) : List Int × Nat × Int :=
  if e = 2 then pShift m l
  else if e = 1 then ((pUtf l).1, (pUtf l).2, 0)
  else if e = 3 then ((pTwin l).1, (pTwin l).2, 0)
  else if e = 4 then ((pLatin l).1, (pLatin l).2, 0)
  else ((pPairs (e == 5) l).1, (pPairs (e == 5) l).2, 0)
/-- the ways of reading that an encoding has. -/
def okM (e m : Int) : Prop := m = 0 ∨ (e = 2 ∧ m = 1)
theorem piece_tells (e m : Int) (he : 1 ≤ e ∧ e ≤ 6) (hm : okM e m) (b : UInt8) (r : List UInt8) : dD e (stM m) (b :: r) = (pPiece e m (b :: r)).1 ++ dD e (stM (pPiece e m (b :: r)).2.2) ((b :: r).drop (pPiece e m (b :: r)).2.1) := by
  unfold pPiece
  by_cases h2 : e = 2
  · subst h2
    rw [if_pos (show (2 : Int) = 2 from rfl)]
    exact shift_piece m (by rcases hm with h | h; exact .inl h; exact .inr h.2) b r
  have hm0 : m = 0 := by rcases hm with h | h; exact h; exact absurd h.1 h2
  subst hm0
  rw [if_neg h2]
  by_cases h1 : e = 1
  · subst h1
    rw [if_pos (show (1 : Int) = 1 from rfl)]
    dsimp only
    rw [stM0]
    exact utf_piece b r
  rw [if_neg h1]
  by_cases h3 : e = 3
  · subst h3
    rw [if_pos (show (3 : Int) = 3 from rfl)]
    dsimp only
    rw [stM0]
    exact twin_piece b r
  rw [if_neg h3]
  by_cases h4 : e = 4
  · subst h4
    rw [if_pos (show (4 : Int) = 4 from rfl)]
    dsimp only
    rw [stM0]
    exact latin_piece b r
  rw [if_neg h4]
  dsimp only
  rw [stM0]
  exact pairs_piece e (by omega) b r
theorem pPiece_mode (e m : Int) (hm : okM e m) (b : UInt8) (r : List UInt8) : okM e (pPiece e m (b :: r)).2.2 := by
  unfold pPiece
  by_cases h2 : e = 2
  · rw [if_pos h2, pShift_cons]
    have h1 : m = 0 ∨ m = 1 := by rcases hm with h | h; exact .inl h; exact .inr h.2
    unfold okM
    repeat' split
    all_goals (dsimp only; omega)
  · rw [if_neg h2]
    repeat' split
    all_goals exact .inl rfl
theorem pPiece_len (e m : Int) (b : UInt8) (r : List UInt8) : 1 ≤ (pPiece e m (b :: r)).2.1 ∧ (pPiece e m (b :: r)).2.1 ≤ (b :: r).length ∧ (pPiece e m (b :: r)).1.length ≤ 1 := by
  unfold pPiece
  split
  · rw [pShift_cons]
    split
    · rename_i h
      have h3 : 3 ≤ (b :: r).length := (List.isPrefixOf_iff_prefix.1 h).length_le
      exact ⟨show 1 ≤ 3 by omega, h3, Nat.zero_le _⟩
    split
    · rename_i h
      have h3 : 3 ≤ (b :: r).length := (List.isPrefixOf_iff_prefix.1 h).length_le
      exact ⟨show 1 ≤ 3 by omega, h3, Nat.zero_le _⟩
    repeat' split
    all_goals simp
  split
  · have t1 : ∀ (k : Nat) (code lo hi : Int) (l : List UInt8), (pTail k code lo hi l).1.length ≤ 1 := by
      intro k
      induction k with
      | zero => intro _ _ _ _; simp [pTail]
      | succ k ih =>
        intro code lo hi l
        cases l with
        | nil => simp [pTail]
        | cons c l =>
          show (if _ then _ else _ : List Int × Nat).1.length ≤ 1
          split
          · exact ih _ _ _ _
          · simp
    have t2 : ∀ (k : Nat) (code lo hi : Int), (pTail k code lo hi r).2 ≤ r.length := fun k code lo hi => pTail_le k code lo hi r
    unfold pUtf
    dsimp only
    rw [List.length_cons]
    split
    · simp
    split
    · have := t2 1 (byte b % 32) 128 191
      exact ⟨by dsimp only; omega, by dsimp only; omega, t1 _ _ _ _ _⟩
    split
    · have := t2 2 (byte b % 16) (if byte b = 224 then 160 else 128) (if byte b = 237 then 159 else 191)
      exact ⟨by dsimp only; omega, by dsimp only; omega, t1 _ _ _ _ _⟩
    split
    · have := t2 3 (byte b % 8) (if byte b = 240 then 144 else 128) (if byte b = 244 then 143 else 191)
      exact ⟨by dsimp only; omega, by dsimp only; omega, t1 _ _ _ _ _⟩
    · simp
  split
  · unfold pTwin
    dsimp only
    repeat' split
    all_goals simp
  split
  · unfold pLatin
    dsimp only
    repeat' split
    all_goals simp
  · unfold pPairs
    split
    · rename_i h; cases h
    · simp
    · rename_i h
      injection h with h1 h2
      subst h2
      dsimp only
      repeat' split
      all_goals simp
end Go.Proofs.YtefohnbmifblkaaDoor.Pl

/-
  Plain: what the automata do not accept is told with something wrong in it: the automata say just what the decoders say.
-/
namespace Go.Proofs.YtefohnbmifblkaaDoor.Pl

theorem aUtf_0 (b : Int) : aUtf 0 b = if b < 128 then 0 else if 194 ≤ b ∧ b ≤ 223 then 1 else if b = 224 then 4 else if b = 237 then 5 else if 225 ≤ b ∧ b ≤ 239 then 2 else if b = 240 then 6 else if 241 ≤ b ∧ b ≤ 243 then 3 else if b = 244 then 7 else 9 := by simp [aUtf]
theorem utf_bad (s : St) (a : Int) (c : UInt8) (h : rUtf s a) (h9 : aUtf a (byte c) = 9) : (-1 : Int) ∈ (dUtf s c).2.1 := by
  have hc := byte_lt c
  have hn := byte_nat c
  unfold rUtf at h
  rcases h with ⟨rfl, rfl⟩ | ⟨_, h⟩
  · rw [aUtf_0] at h9
    have h1 : ¬ c.toNat < 128 ∧ ¬ (194 ≤ c.toNat ∧ c.toNat ≤ 223) ∧ ¬ (224 ≤ c.toNat ∧ c.toNat ≤ 239) ∧ ¬ (240 ≤ c.toNat ∧ c.toNat ≤ 244) := by
      repeat' split at h9
      all_goals omega
    unfold dUtf
    rw [if_pos (show st0.need = 0 from rfl), if_neg h1.1, if_neg h1.2.1, if_neg h1.2.2.1, if_neg h1.2.2.2]
    simp
  · have h1 : s.need ≠ 0 ∧ (byte c < s.fr ∨ s.to < byte c) := by
      rcases h with ⟨rfl, h1, h2, h3⟩ | ⟨rfl, h1, h2, h3⟩ | ⟨rfl, h1, h2, h3⟩ | ⟨rfl, h1, h2, h3⟩ | ⟨rfl, h1, h2, h3⟩ | ⟨rfl, h1, h2, h3⟩ | ⟨rfl, h1, h2, h3⟩
      · rw [aUtf_1] at h9; split at h9 <;> omega
      · rw [aUtf_2] at h9; split at h9 <;> omega
      · rw [aUtf_3] at h9; split at h9 <;> omega
      · rw [aUtf_4] at h9; split at h9 <;> omega
      · rw [aUtf_5] at h9; split at h9 <;> omega
      · rw [aUtf_6] at h9; split at h9 <;> omega
      · rw [aUtf_7] at h9; split at h9 <;> omega
    unfold dUtf
    rw [if_neg h1.1, if_pos h1.2]
    simp

theorem shift_bad (s : St) (a : Int) (c : UInt8) (h : rShift s a) (h9 : aShift a (byte c) = 9) : (-1 : Int) ∈ (dShift s c).2.1 := by
  have hc := byte_lt c
  have hn := byte_nat c
  obtain ⟨need, code, fr, to, kept, half, mode⟩ := s
  obtain ⟨h1, h2, h⟩ := h
  dsimp only at h1 h2 h
  subst h1 h2
  rcases h with ⟨rfl, rfl, rfl⟩ | ⟨rfl, rfl, rfl⟩ | ⟨rfl, rfl, rfl⟩ | ⟨rfl, rfl, rfl⟩ | ⟨rfl, rfl, rfl⟩ | ⟨rfl, rfl, rfl⟩ | ⟨rfl, rfl, rfl⟩ | ⟨rfl, rfl, rfl⟩ | ⟨rfl, rfl, l, rfl, hl0, hl1⟩
  · have h1 : ¬ c.toNat = 27 ∧ (128 ≤ c.toNat ∨ c.toNat = 14 ∨ c.toNat = 15) := by
      simp [aShift] at h9
      repeat' split at h9
      all_goals omega
    simp [dShift, h1.1, h1.2]
  · have h1 : ¬ c.toNat = 27 ∧ ¬ c.toNat = 10 ∧ (c.toNat < 33 ∨ 126 < c.toNat) := by
      simp [aShift] at h9
      repeat' split at h9
      all_goals omega
    simp [dShift, h1.1, h1.2.1, h1.2.2]
  · have h1 : ¬ (c.toNat = 40 ∨ c.toNat = 36) := by
      simp [aShift] at h9
      repeat' split at h9
      all_goals omega
    simp [dShift, h1]
  · have h1 : ¬ c.toNat = 66 := by
      simp [aShift] at h9
      repeat' split at h9
      all_goals omega
    simp [dShift, h1]
  · have h1 : ¬ c.toNat = 66 := by
      simp [aShift] at h9
      repeat' split at h9
      all_goals omega
    simp [dShift, h1]
  · have h1 : ¬ (c.toNat = 40 ∨ c.toNat = 36) := by
      simp [aShift] at h9
      repeat' split at h9
      all_goals omega
    simp [dShift, h1]
  · have h1 : ¬ c.toNat = 66 := by
      simp [aShift] at h9
      repeat' split at h9
      all_goals omega
    simp [dShift, h1]
  · have h1 : ¬ c.toNat = 66 := by
      simp [aShift] at h9
      repeat' split at h9
      all_goals omega
    simp [dShift, h1]
  · have h1 : c.toNat < 33 ∨ 126 < c.toNat := by
      simp [aShift] at h9
      omega
    have h4 : l ≠ 27 := by
      rintro rfl
      exact absurd hl0 (by decide)
    unfold dShift
    simp [keep, h4]
    split
    · simp
    · simp

theorem twin_bad (s : St) (a : Int) (c : UInt8) (h : rTwin s a) (h9 : aTwin a (byte c) = 9) : (-1 : Int) ∈ (dTwin s c).2.1 := by
  have hc := byte_lt c
  have hn := byte_nat c
  unfold rTwin at h
  obtain ⟨need, code, fr, to, kept, half, mode⟩ := s
  dsimp only at h
  obtain ⟨h1, h2, h⟩ := h
  rcases h with ⟨rfl, rfl⟩ | ⟨rfl, l, rfl, _⟩
  · have h1 : ¬ c.toNat < 128 ∧ ¬ (129 ≤ c.toNat ∧ c.toNat ≤ 159) ∧ ¬ (161 ≤ c.toNat ∧ c.toNat ≤ 223) := by
      simp [aTwin] at h9
      repeat' split at h9
      all_goals omega
    simp [dTwin, h1.1, h1.2.1, h1.2.2]
  · have h1 : ¬ (64 ≤ c.toNat ∧ c.toNat ≤ 126) ∧ ¬ (128 ≤ c.toNat ∧ c.toNat ≤ 252) := by
      simp [aTwin] at h9
      omega
    simp [dTwin, h1.1, h1.2]

theorem low_bad (s : St) (a : Int) (c : UInt8) (h : rPairs true s a) (h9 : aLow a (byte c) = 9) : (-1 : Int) ∈ (dPairs true s c).2.1 := by
  have hc := byte_lt c
  have hn := byte_nat c
  obtain ⟨need, code, fr, to, kept, half, mode⟩ := s
  obtain ⟨h1, h⟩ := h
  rw [if_pos rfl] at h
  dsimp only at h1 h
  subst h1
  rcases h with ⟨rfl, rfl, rfl⟩ | ⟨rfl, rfl, l, rfl⟩ | ⟨rfl, hh, rfl⟩ | ⟨rfl, hh, l, rfl⟩
  · simp [aLow] at h9
  · have hl := byte_lt l
    have h1 : 220 ≤ byte c ∧ byte c ≤ 223 := by
      simp [aLow] at h9
      repeat' split at h9
      all_goals omega
    have h2 : 56320 ≤ byte c * 256 + byte l ∧ byte c * 256 + byte l ≤ 57343 := by omega
    have h3 : ¬ (55296 ≤ byte c * 256 + byte l ∧ byte c * 256 + byte l ≤ 56319) := by omega
    simp [dPairs, h2, h3]
  · simp [aLow] at h9
  · have hl := byte_lt l
    have h1 : ¬ (220 ≤ byte c ∧ byte c ≤ 223) := by
      simp [aLow] at h9
      omega
    have h2 : ¬ (56320 ≤ byte c * 256 + byte l ∧ byte c * 256 + byte l ≤ 57343) := by omega
    have h3 : half ≠ 0 := by omega
    simp [dPairs, h2, h3]
    split <;> simp

/-- a byte is kept behind which something wrong must come. -/
def Doom (s : St) : Prop := ∃ l : UInt8, s.kept = [l] ∧ ((s.half = 0 ∧ 220 ≤ byte l ∧ byte l ≤ 223) ∨ (s.half ≠ 0 ∧ ¬ (220 ≤ byte l ∧ byte l ≤ 223)))
theorem high_bad (s : St) (a : Int) (c : UInt8) (h : rPairs false s a) (h9 : aHigh a (byte c) = 9) : Doom (dPairs false s c).1 := by
  have hc := byte_lt c
  have hn := byte_nat c
  obtain ⟨need, code, fr, to, kept, half, mode⟩ := s
  obtain ⟨h1, h⟩ := h
  rw [if_neg (by simp)] at h
  dsimp only at h1 h
  subst h1
  rcases h with ⟨rfl, rfl, rfl⟩ | ⟨rfl, rfl, l, rfl, _⟩ | ⟨rfl, rfl, l, rfl, _⟩ | ⟨rfl, hh, rfl⟩ | ⟨rfl, hh, l, rfl, _⟩
  · refine ⟨c, rfl, .inl ⟨rfl, ?_⟩⟩
    simp [aHigh] at h9
    repeat' split at h9
    all_goals omega
  · simp [aHigh] at h9
  · simp [aHigh] at h9
  · refine ⟨c, rfl, .inr ⟨?_, ?_⟩⟩
    · show half ≠ 0
      omega
    · simp [aHigh] at h9
      omega
  · simp [aHigh] at h9
theorem doom_bad (s : St) (c : UInt8) (h : Doom s) : (-1 : Int) ∈ (dPairs false s c).2.1 := by
  have hc := byte_lt c
  obtain ⟨need, code, fr, to, kept, half, mode⟩ := s
  obtain ⟨l, h1, h⟩ := h
  dsimp only at h1 h
  subst h1
  have hl := byte_lt l
  rcases h with ⟨rfl, h⟩ | ⟨h0, h⟩
  · have h2 : 56320 ≤ byte l * 256 + byte c ∧ byte l * 256 + byte c ≤ 57343 := by omega
    have h3 : ¬ (55296 ≤ byte l * 256 + byte c ∧ byte l * 256 + byte c ≤ 56319) := by omega
    simp [dPairs, h2, h3]
  · have h2 : ¬ (56320 ≤ byte l * 256 + byte c ∧ byte l * 256 + byte c ≤ 57343) := by omega
    simp [dPairs, h2, h0]
    split <;> simp
theorem doom_end (s : St) (h : Doom s) : (-1 : Int) ∈ dEnd s := by
  obtain ⟨l, h1, _⟩ := h
  simp [dEnd, h1]

theorem take_sub (e : Int) (c : UInt8) (x : Int) : ∀ (n : Nat) (s : St) (all : List Int), x ∈ all → x ∈ (dTake e c n s all).2
  | 0, _, _, h => h
  | n + 1, s, all, h => by
    unfold dTake
    split
    · exact take_sub e c x n _ _ (List.mem_append_left _ h)
    · exact List.mem_append_left _ h
theorem step_sub (e : Int) (s : St) (c : UInt8) (x : Int) (h : x ∈ (dOne e s c).2.1) : x ∈ (dStep e s c).2 := by
  unfold dStep dTake
  split
  · exact take_sub e c x 2 _ _ (by simpa using h)
  · simpa using h
theorem bad_step (e : Int) (s : St) (a : Int) (c : UInt8) (h : Rel e s a) (ha : a ≠ 9) (h9 : aStep e a (byte c) = 9) : (-1 : Int) ∈ (dStep e s c).2 ∨ (e = 6 ∧ Doom (dStep e s c).1) := by
  have hc := byte_lt c
  have hn := byte_nat c
  have hz : aStep e a (byte c) = (if e = 1 then aUtf a (byte c) else if e = 2 then aShift a (byte c) else if e = 3 then aTwin a (byte c) else if e = 4 then (if a = 0 then aLatin (byte c) else 9) else if e = 5 then aLow a (byte c) else if e = 6 then aHigh a (byte c) else 9) := by
    unfold aStep
    rw [if_neg ha]
  rw [hz] at h9
  rcases h with ⟨rfl, h⟩ | ⟨rfl, h⟩ | ⟨rfl, h⟩ | ⟨rfl, rfl, rfl⟩ | ⟨rfl, h⟩ | ⟨rfl, h⟩
  · exact .inl (step_sub _ _ _ _ (by rw [one1]; exact utf_bad s a c h (by simpa using h9)))
  · exact .inl (step_sub _ _ _ _ (by rw [one2]; exact shift_bad s a c h (by simpa using h9)))
  · exact .inl (step_sub _ _ _ _ (by rw [one3]; exact twin_bad s a c h (by simpa using h9)))
  · refine .inl (step_sub _ _ _ _ ?_)
    rw [one4]
    have h1 : c.toNat = 129 ∨ c.toNat = 141 ∨ c.toNat = 143 ∨ c.toNat = 144 ∨ c.toNat = 157 := by
      have h2 : aLatin (byte c) = 9 := by simpa using h9
      unfold aLatin at h2
      split at h2 <;> omega
    show (-1 : Int) ∈ [dLatin c]
    unfold dLatin
    rw [if_pos h1]
    simp
  · exact .inl (step_sub _ _ _ _ (by rw [one5 5 (.inl rfl)]; exact low_bad s a c h (by simpa using h9)))
  · refine .inr ⟨rfl, ?_⟩
    have h1 := high_bad s a c h (by simpa using h9)
    have h2 : (dOne 6 s c).2.2 = false := by
      rw [one5 6 (.inr rfl)]
      unfold dPairs
      split
      · rfl
      · dsimp only
        repeat' split
        all_goals rfl
    rw [step_one 6 s c h2, one5 6 (.inr rfl)]
    exact h1
theorem doom_run (s : St) (h : Doom s) : ∀ l : List UInt8, (-1 : Int) ∈ dD 6 s l
  | [] => doom_end s h
  | c :: l => by
    rw [dD_cons]
    exact List.mem_append_left _ (step_sub _ _ _ _ (by rw [one5 6 (.inr rfl)]; exact doom_bad s c h))
theorem bad_end (e : Int) (s : St) (a : Int) (h : Rel e s a) (ha : aEnds e a = false) : (-1 : Int) ∈ dEnd s := by
  have h0 : ¬ (a = 0 ∨ (e = 2 ∧ a = 1)) := by simpa [aEnds] using ha
  rcases h with ⟨rfl, h⟩ | ⟨rfl, h⟩ | ⟨rfl, h⟩ | ⟨rfl, rfl, rfl⟩ | ⟨rfl, h⟩ | ⟨rfl, h⟩
  · rcases h with ⟨rfl, rfl⟩ | ⟨_, h⟩
    · exact absurd (.inl rfl) h0
    · have : 0 < s.need := by omega
      simp [dEnd, this]
  · obtain ⟨_, _, h⟩ := h
    have h1 : s.kept ≠ [] := by
      rcases h with ⟨rfl, _, _⟩ | ⟨rfl, _, _⟩ | ⟨rfl, _, h⟩ | ⟨rfl, _, h⟩ | ⟨rfl, _, h⟩ | ⟨rfl, _, h⟩ | ⟨rfl, _, h⟩ | ⟨rfl, _, h⟩ | ⟨rfl, _, l, h, _⟩
      · exact absurd (.inl rfl) h0
      · exact absurd (.inr ⟨rfl, rfl⟩) h0
      all_goals (rw [h]; simp)
    simp [dEnd, h1]
  · obtain ⟨_, _, h⟩ := h
    rcases h with ⟨rfl, _⟩ | ⟨rfl, l, h, _⟩
    · exact absurd (.inl rfl) h0
    · simp [dEnd, h]
  · exact absurd (.inl rfl) h0
  · obtain ⟨_, h⟩ := h
    rw [if_pos rfl] at h
    rcases h with ⟨rfl, _, _⟩ | ⟨rfl, _, l, h⟩ | ⟨rfl, h, _⟩ | ⟨rfl, _, l, h⟩
    · exact absurd (.inl rfl) h0
    · simp [dEnd, h]
    · have : s.half ≠ 0 := by omega
      simp [dEnd, this]
    · simp [dEnd, h]
  · obtain ⟨_, h⟩ := h
    rw [if_neg (by simp)] at h
    rcases h with ⟨rfl, _, _⟩ | ⟨rfl, _, l, h, _⟩ | ⟨rfl, _, l, h, _⟩ | ⟨rfl, h, _⟩ | ⟨rfl, _, l, h, _⟩
    · exact absurd (.inl rfl) h0
    · simp [dEnd, h]
    · simp [dEnd, h]
    · have : s.half ≠ 0 := by omega
      simp [dEnd, this]
    · simp [dEnd, h]
theorem bad_run (e : Int) : ∀ (l : List UInt8) (s : St) (a : Int), Rel e s a → a ≠ 9 → aEnds e (aRun e a l) = false → (-1 : Int) ∈ dD e s l
  | [], s, a, h, _, hz => bad_end e s a h hz
  | c :: l, s, a, h, ha, hz => by
    rw [dD_cons]
    by_cases h9 : aStep e a (byte c) = 9
    · rcases bad_step e s a c h ha h9 with h1 | ⟨rfl, h1⟩
      · exact List.mem_append_left _ h1
      · exact List.mem_append_right _ (doom_run _ h1 l)
    · exact List.mem_append_right _ (bad_run e l _ _ (rel_step e s a c h h9).1 h9 hz)
/-- THE AUTOMATA SAY WHAT THE DECODERS SAY. -/
theorem right_iff (e : Int) (he : 1 ≤ e ∧ e ≤ 6) (l : List UInt8) : aEnds e (aRun e 0 l) = true ↔ (-1 : Int) ∉ dWhole e l := by
  refine ⟨told_right e he l, fun h => ?_⟩
  cases hz : aEnds e (aRun e 0 l) with
  | true => rfl
  | false => exact absurd (bad_run e l st0 0 (rel_zero e he) (by decide) hz) h
end Go.Proofs.YtefohnbmifblkaaDoor.Pl
