/-
  Plain functions for auto and score: the automata, the classes and weights of bytes, the scores: no program in sight.
-/
import Derived.Lib.Strings
namespace Go.Proofs.YtefohnbmifblkaaDoor.Pl

/-- the automata. -/
def aUtf (s b : Int) : Int :=
  if s = 0 ∧ b < 128 then 0
  else if s = 0 ∧ 194 ≤ b ∧ b ≤ 223 then 1
  else if s = 0 ∧ b = 224 then 4
  else if s = 0 ∧ b = 237 then 5
  else if s = 0 ∧ 225 ≤ b ∧ b ≤ 239 then 2
  else if s = 0 ∧ b = 240 then 6
  else if s = 0 ∧ 241 ≤ b ∧ b ≤ 243 then 3
  else if s = 0 ∧ b = 244 then 7
  else if 1 ≤ s ∧ s ≤ 3 ∧ 128 ≤ b ∧ b ≤ 191 then s - 1
  else if (s = 4 ∧ 160 ≤ b ∧ b ≤ 191) ∨ (s = 5 ∧ 128 ≤ b ∧ b ≤ 159) then 1
  else if (s = 6 ∧ 144 ≤ b ∧ b ≤ 191) ∨ (s = 7 ∧ 128 ≤ b ∧ b ≤ 143) then 2
  else 9
def aShift (s b : Int) : Int :=
  if (s = 0 ∨ s = 1) ∧ b = 27 then 2 + 3 * s
  else if s = 0 ∧ b < 128 ∧ b ≠ 14 ∧ b ≠ 15 then 0
  else if (s = 2 ∨ s = 5) ∧ b = 40 then s + 1
  else if (s = 2 ∨ s = 5) ∧ b = 36 then s + 2
  else if (s = 3 ∨ s = 6) ∧ b = 66 then 0
  else if (s = 4 ∨ s = 7) ∧ b = 66 then 1
  else if s = 1 ∧ b = 10 then 0
  else if s = 1 ∧ 33 ≤ b ∧ b ≤ 126 then 8
  else if s = 8 ∧ 33 ≤ b ∧ b ≤ 126 then 1
  else 9
def aTwin (s b : Int) : Int :=
  if s = 0 ∧ (b < 128 ∨ (161 ≤ b ∧ b ≤ 223)) then 0
  else if s = 0 ∧ 129 ≤ b ∧ b ≤ 159 then 1
  else if s = 1 ∧ ((64 ≤ b ∧ b ≤ 126) ∨ (128 ≤ b ∧ b ≤ 252)) then 0
  else 9
def aLatin (b : Int) : Int := if b = 129 ∨ b = 141 ∨ b = 143 ∨ b = 144 ∨ b = 157 then 9 else 0
def aLow (s b : Int) : Int :=
  if s = 0 ∨ s = 2 then s + 1
  else if s = 1 ∧ 216 ≤ b ∧ b ≤ 219 then 2
  else if (s = 1 ∧ (b < 220 ∨ 223 < b)) ∨ (s = 3 ∧ 220 ≤ b ∧ b ≤ 223) then 0
  else 9
def aHigh (s b : Int) : Int :=
  if s = 0 ∧ 216 ≤ b ∧ b ≤ 219 then 2
  else if s = 0 ∧ (b < 220 ∨ 223 < b) then 1
  else if s = 1 ∨ s = 4 then 0
  else if s = 2 then 3
  else if s = 3 ∧ 220 ≤ b ∧ b ≤ 223 then 4
  else 9
/-- auto.Step at a state from 0 to 9. -/
def aStep (e s b : Int) : Int :=
  if s = 9 then 9
  else if e = 1 then aUtf s b
  else if e = 2 then aShift s b
  else if e = 3 then aTwin s b
  else if e = 4 then (if s = 0 then aLatin b else 9)
  else if e = 5 then aLow s b
  else if e = 6 then aHigh s b
  else 9
def aEnds (e s : Int) : Bool := decide (s = 0 ∨ (e = 2 ∧ s = 1))
theorem aUtf_range (s b : Int) : 0 ≤ aUtf s b ∧ aUtf s b ≤ 9 := by unfold aUtf; repeat' split <;> omega
theorem aShift_range (s b : Int) : 0 ≤ aShift s b ∧ aShift s b ≤ 9 := by unfold aShift; repeat' split <;> omega
theorem aTwin_range (s b : Int) : 0 ≤ aTwin s b ∧ aTwin s b ≤ 9 := by unfold aTwin; repeat' split <;> omega
theorem aLatin_range (b : Int) : 0 ≤ aLatin b ∧ aLatin b ≤ 9 := by unfold aLatin; split <;> omega
theorem aLow_range (s b : Int) : 0 ≤ aLow s b ∧ aLow s b ≤ 9 := by unfold aLow; repeat' split <;> omega
theorem aHigh_range (s b : Int) : 0 ≤ aHigh s b ∧ aHigh s b ≤ 9 := by unfold aHigh; repeat' split <;> omega
theorem aStep_range (e s b : Int) : 0 ≤ aStep e s b ∧ aStep e s b ≤ 9 := by
  have h1 := aUtf_range s b
  have h2 := aShift_range s b
  have h3 := aTwin_range s b
  have h4 := aLatin_range b
  have h5 := aLow_range s b
  have h6 := aHigh_range s b
  unfold aStep
  repeat' split
  all_goals omega

/-- score. -/
def cls (b : Int) : Int :=
  if (97 ≤ b ∧ b ≤ 122) ∨ (65 ≤ b ∧ b ≤ 90) then 0
  else if b = 32 ∨ b = 10 ∨ b = 9 ∨ b = 13 then 1
  else if 48 ≤ b ∧ b ≤ 57 then 2
  else if b < 32 ∨ b = 127 then 4
  else if 191 < b then 6
  else if 127 < b then 5
  else 3
theorem cls_range (b : Int) : 0 ≤ cls b ∧ cls b ≤ 6 := by unfold cls; repeat' split <;> omega
/-- score.Weight, by the classes x, y of a, b. -/
def wgt (e a b x y : Int) : Int :=
  if e = 1 then (if x = 6 ∧ y = 5 then 6 else if x < 4 ∧ y < 4 then 2 else 0)
  else if e = 2 then (if a = 27 ∨ b = 27 then 8 else if x < 4 ∧ y < 4 then 1 else 0)
  else if e = 3 then (if x = 5 ∧ y ≠ 4 then 4 else if x < 4 ∧ y < 4 then 2 else 0)
  else if e = 4 then (if (x = 0 ∧ y = 6) ∨ (x = 6 ∧ y = 0) then 5 else if x < 4 ∧ y < 4 then 2 else -1)
  else if e = 5 then (if y = 4 ∧ x < 4 then 4 else 0)
  else if e = 6 then (if x = 4 ∧ y < 4 then 4 else 0)
  else 0
def weight (e a b : Int) : Int := wgt e a b (cls a) (cls b)
theorem wgt_range (e a b x y : Int) : -1 ≤ wgt e a b x y ∧ wgt e a b x y ≤ 8 := by unfold wgt; repeat' split <;> omega
end Go.Proofs.YtefohnbmifblkaaDoor.Pl

/-
  Plain decode: a state, what a byte does to it, what comes of it.
-/
namespace Go.Proofs.YtefohnbmifblkaaDoor.Pl

/-- a state of a decoder. -/
structure St where
  need : Int
  code : Int
  fr : Int
  to : Int
  kept : List UInt8
  half : Int
  mode : Int
deriving DecidableEq

def st0 : St := ⟨0, 0, 0, 0, [], 0, 0⟩
def byte (c : UInt8) : Int := (c.toNat : Int)

def dUtf (s : St) (c : UInt8) : St × List Int × Bool :=
  if s.need = 0 then
    if c.toNat < 128 then (s, [byte c], false)
    else if 194 ≤ c.toNat ∧ c.toNat ≤ 223 then (⟨1, byte c % 32, 128, 191, [], 0, 0⟩, [], false)
    else if 224 ≤ c.toNat ∧ c.toNat ≤ 239 then (⟨2, byte c % 16, if c.toNat = 224 then 160 else 128, if c.toNat = 237 then 159 else 191, [], 0, 0⟩, [], false)
    else if 240 ≤ c.toNat ∧ c.toNat ≤ 244 then (⟨3, byte c % 8, if c.toNat = 240 then 144 else 128, if c.toNat = 244 then 143 else 191, [], 0, 0⟩, [], false)
    else (s, [-1], false)
  else if byte c < s.fr ∨ s.to < byte c then (st0, [-1], true)
  else if s.need = 1 then (st0, [s.code * 64 + byte c % 64], false)
  else (⟨s.need - 1, s.code * 64 + byte c % 64, 128, 191, [], 0, 0⟩, [], false)

def dTwin (s : St) (c : UInt8) : St × List Int × Bool :=
  match s.kept with
  | l :: _ =>
    if 64 ≤ c.toNat ∧ c.toNat ≤ 126 then (⟨s.need, s.code, s.fr, s.to, [], s.half, s.mode⟩, [19968 + (byte l - 129) * 188 + byte c - 64], false)
    else if 128 ≤ c.toNat ∧ c.toNat ≤ 252 then (⟨s.need, s.code, s.fr, s.to, [], s.half, s.mode⟩, [19968 + (byte l - 129) * 188 + byte c - 65], false)
    else (⟨s.need, s.code, s.fr, s.to, [], s.half, s.mode⟩, [-1], decide (c.toNat < 128))
  | [] =>
    if c.toNat < 128 then (s, [byte c], false)
    else if 129 ≤ c.toNat ∧ c.toNat ≤ 159 then (⟨s.need, s.code, s.fr, s.to, [c], s.half, s.mode⟩, [], false)
    else if 161 ≤ c.toNat ∧ c.toNat ≤ 223 then (s, [65377 + byte c - 161], false)
    else (s, [-1], false)

def dLatin (c : UInt8) : Int :=
  if c.toNat = 129 ∨ c.toNat = 141 ∨ c.toNat = 143 ∨ c.toNat = 144 ∨ c.toNat = 157 then -1
  else if 128 ≤ c.toNat ∧ c.toNat < 160 then 8192 + byte c
  else byte c

def keep (s : St) (k : List UInt8) : St := ⟨s.need, s.code, s.fr, s.to, k, s.half, s.mode⟩

def dShift (s : St) (c : UInt8) : St × List Int × Bool :=
  if c.toNat = 27 ∧ s.kept.head? ≠ some 27 then (keep s [27], if s.kept = [] then [] else [-1], false)
  else if s.kept = [27] ∧ (c.toNat = 40 ∨ c.toNat = 36) then (keep s [27, c], [], false)
  else if s.kept = [27, 40] ∧ c.toNat = 66 then (st0, [], false)
  else if s.kept = [27, 36] ∧ c.toNat = 66 then (⟨0, 0, 0, 0, [], 0, 1⟩, [], false)
  else if s.kept = [27] then (keep s [], [-1], true)
  else match s.kept with
  | [_, x] => if s.mode = 0 then (keep s [], [-1, byte x], true) else (keep s [x], [-1], true)
  | k =>
    if s.mode = 0 then (s, [if 128 ≤ c.toNat ∨ c.toNat = 14 ∨ c.toNat = 15 then -1 else byte c], false)
    else if k = [] ∧ c.toNat = 10 then (st0, [10], false)
    else if c.toNat < 33 ∨ 126 < c.toNat then (keep s [], [-1], false)
    else match k with
    | [] => (keep s [c], [], false)
    | l :: _ => (keep s [], [12288 + (byte l - 33) * 94 + byte c - 33], false)

def dPairs (low : Bool) (s : St) (c : UInt8) : St × List Int × Bool :=
  match s.kept with
  | [] => (keep s [c], [], false)
  | l :: _ =>
    let u : Int := if low then byte c * 256 + byte l else byte l * 256 + byte c
    let z : St := ⟨s.need, s.code, s.fr, s.to, [], 0, s.mode⟩
    if s.half ≠ 0 then
      if 56320 ≤ u ∧ u ≤ 57343 then (z, [65536 + (s.half - 55296) * 1024 + u - 56320], false)
      else if 55296 ≤ u ∧ u ≤ 56319 then (⟨s.need, s.code, s.fr, s.to, [], u, s.mode⟩, [-1], false)
      else (z, [-1, u], false)
    else
      if 55296 ≤ u ∧ u ≤ 56319 then (⟨s.need, s.code, s.fr, s.to, [], u, s.mode⟩, [], false)
      else if 56320 ≤ u ∧ u ≤ 57343 then (z, [-1], false)
      else (z, [u], false)

/-- one take of a byte in encoding e. -/
def dOne (e : Int) (s : St) (c : UInt8) : St × List Int × Bool :=
  if e = 1 then dUtf s c else if e = 2 then dShift s c else if e = 3 then dTwin s c else if e = 4 then (s, [dLatin c], false) else dPairs (e == 5) s c

/-- a byte, taken again while it is to be (thrice at most). -/
def dTake (e : Int) (c : UInt8) : Nat → St → List Int → St × List Int
  | 0, s, all => (s, all)
  | n + 1, s, all =>
    if (dOne e s c).2.2 then dTake e c n (dOne e s c).1 (all ++ (dOne e s c).2.1)
    else ((dOne e s c).1, all ++ (dOne e s c).2.1)
def dStep (e : Int) (s : St) (c : UInt8) : St × List Int := dTake e c 3 s []

def dEnd (s : St) : List Int :=
  (if 0 < s.need ∨ s.half ≠ 0 ∨ s.kept ≠ [] then [-1] else []) ++
  (match s.kept with
   | [_, x] => if s.mode = 0 then [byte x] else [-1]
   | _ => [])

def dFeed (e : Int) : St → List UInt8 → St × List Int
  | s, [] => (s, [])
  | s, c :: l => ((dFeed e (dStep e s c).1 l).1, (dStep e s c).2 ++ (dFeed e (dStep e s c).1 l).2)

def dWhole (e : Int) (l : List UInt8) : List Int := (dFeed e st0 l).2 ++ dEnd (dFeed e st0 l).1

example : dWhole 1 [97] = [97] := by decide
example : dWhole 1 [0xc3, 0xa9, 0x80] = [233, -1] := by decide

/-- what a state of encoding e is like. -/
def dOk (e : Int) (s : St) : Prop :=
  (e = 1 ∧ s.kept = [] ∧ s.half = 0 ∧ s.mode = 0 ∧ 0 ≤ s.code ∧
    (s = st0 ∨ (128 ≤ s.fr ∧ s.to ≤ 191 ∧ ((s.need = 1 ∧ s.code < 32768) ∨ (s.need = 2 ∧ s.code < 512) ∨ (s.need = 3 ∧ s.code < 8))))) ∨
  (e = 2 ∧ s.need = 0 ∧ s.code = 0 ∧ s.fr = 0 ∧ s.to = 0 ∧ s.half = 0 ∧ (s.mode = 0 ∨ s.mode = 1) ∧
    (s.kept = [] ∨ s.kept = [27] ∨ s.kept = [27, 40] ∨ s.kept = [27, 36] ∨ (s.mode = 1 ∧ ∃ l : UInt8, s.kept = [l] ∧ 33 ≤ l.toNat ∧ l.toNat ≤ 126))) ∨
  (e = 3 ∧ s.need = 0 ∧ s.code = 0 ∧ s.fr = 0 ∧ s.to = 0 ∧ s.half = 0 ∧ s.mode = 0 ∧
    (s.kept = [] ∨ ∃ l : UInt8, s.kept = [l] ∧ 129 ≤ l.toNat ∧ l.toNat ≤ 159)) ∨
  (e = 4 ∧ s = st0) ∨
  ((e = 5 ∨ e = 6) ∧ s.need = 0 ∧ s.code = 0 ∧ s.fr = 0 ∧ s.to = 0 ∧ s.mode = 0 ∧ (s.half = 0 ∨ (55296 ≤ s.half ∧ s.half ≤ 56319)) ∧
    (s.kept = [] ∨ ∃ l : UInt8, s.kept = [l]))
end Go.Proofs.YtefohnbmifblkaaDoor.Pl

/-
  Plain decode: a good state stays good; how much a byte tells.
-/
namespace Go.Proofs.YtefohnbmifblkaaDoor.Pl

theorem dOk_zero (e : Int) (h : 1 ≤ e ∧ e ≤ 6) : dOk e st0 := by
  unfold dOk st0
  have : e = 1 ∨ e = 2 ∨ e = 3 ∨ e = 4 ∨ e = 5 ∨ e = 6 := by omega
  rcases this with rfl | rfl | rfl | rfl | rfl | rfl <;> simp

theorem dUtf_ok (s : St) (c : UInt8) (h : dOk 1 s) : dOk 1 (dUtf s c).1 := by
  have hz := dOk_zero 1 (by omega)
  unfold dOk at h
  simp at h
  obtain ⟨h1, h2, h3, h4, h5⟩ := h
  have hc := c.toNat_lt
  have hb : byte c = (c.toNat : Int) := rfl
  unfold dUtf
  by_cases hn : s.need = 0
  · have hs : s = st0 := by
      rcases h5 with h5 | ⟨_, _, h5⟩
      · exact h5
      · omega
    subst hs
    rw [if_pos hn]
    repeat' split
    all_goals first
      | exact hz
      | (refine .inl ⟨rfl, rfl, rfl, rfl, ?_, .inr ⟨?_, ?_, ?_⟩⟩ <;> simp <;> omega)
  · rw [if_neg hn]
    have hs : s ≠ st0 := by
      rintro rfl
      exact hn rfl
    rcases h5 with h5 | ⟨h6, h7, h8⟩
    · exact absurd h5 hs
    · repeat' split
      all_goals first
        | exact hz
        | (refine .inl ⟨rfl, rfl, rfl, rfl, ?_, .inr ⟨?_, ?_, ?_⟩⟩ <;> simp <;> omega)

theorem dTwin_ok (s : St) (c : UInt8) (h : dOk 3 s) : dOk 3 (dTwin s c).1 := by
  unfold dOk at h
  simp at h
  obtain ⟨h1, h2, h3, h4, h5, h6, h7⟩ := h
  unfold dTwin
  repeat' split
  all_goals
    refine .inr (.inr (.inl ⟨rfl, ?_⟩))
    simp_all

theorem dShift_ok (s : St) (c : UInt8) (h : dOk 2 s) : dOk 2 (dShift s c).1 := by
  unfold dOk at h
  simp at h
  obtain ⟨h1, h2, h3, h4, h5, h6, h7⟩ := h
  unfold dShift
  repeat' split
  all_goals
    refine .inr (.inl ⟨rfl, ?_⟩)
    simp_all [keep, st0]
  · rename_i hx
    rcases hx.2 with hx | hx
    · exact .inl (UInt8.toNat_inj.1 hx)
    · exact .inr (UInt8.toNat_inj.1 hx)
  · rcases h7 with ⟨_, rfl⟩ | ⟨_, rfl⟩ <;> simp

theorem dPairs_ok (e : Int) (he : e = 5 ∨ e = 6) (low : Bool) (s : St) (c : UInt8) (h : dOk e s) : dOk e (dPairs low s c).1 := by
  have h' : s.need = 0 ∧ s.code = 0 ∧ s.fr = 0 ∧ s.to = 0 ∧ s.mode = 0 ∧ (s.half = 0 ∨ (55296 ≤ s.half ∧ s.half ≤ 56319)) ∧
    (s.kept = [] ∨ ∃ l : UInt8, s.kept = [l]) := by
    unfold dOk at h
    rcases he with rfl | rfl <;> simpa using h
  obtain ⟨h1, h2, h3, h4, h5, h6, h7⟩ := h'
  unfold dPairs
  split
  · refine .inr (.inr (.inr (.inr ⟨he, ?_⟩)))
    simp_all [keep]
  · dsimp only
    generalize (if low = true then _ else _ : Int) = u
    repeat' split
    all_goals
      refine .inr (.inr (.inr (.inr ⟨he, ?_⟩)))
      simp_all

theorem dOne_ok (e : Int) (s : St) (c : UInt8) (h : dOk e s) : dOk e (dOne e s c).1 := by
  unfold dOne
  by_cases h1 : e = 1
  · subst h1; exact dUtf_ok s c h
  rw [if_neg h1]
  by_cases h2 : e = 2
  · subst h2; exact dShift_ok s c h
  rw [if_neg h2]
  by_cases h3 : e = 3
  · subst h3; exact dTwin_ok s c h
  rw [if_neg h3]
  by_cases h4 : e = 4
  · subst h4; exact h
  rw [if_neg h4]
  refine dPairs_ok e ?_ _ s c h
  unfold dOk at h
  omega

theorem dUtf_len (s : St) (c : UInt8) : (dUtf s c).2.1.length ≤ 2 := by
  unfold dUtf
  repeat' split
  all_goals simp
theorem dShift_len (s : St) (c : UInt8) : (dShift s c).2.1.length ≤ 2 := by
  unfold dShift
  repeat' split
  all_goals simp
theorem dTwin_len (s : St) (c : UInt8) : (dTwin s c).2.1.length ≤ 2 := by
  unfold dTwin
  repeat' split
  all_goals simp
theorem dPairs_len (low : Bool) (s : St) (c : UInt8) : (dPairs low s c).2.1.length ≤ 2 := by
  unfold dPairs
  split
  · simp
  · dsimp only
    generalize (if low = true then _ else _ : Int) = u
    repeat' split
    all_goals simp
theorem dOne_len (e : Int) (s : St) (c : UInt8) : (dOne e s c).2.1.length ≤ 2 := by
  unfold dOne
  split
  · exact dUtf_len s c
  split
  · exact dShift_len s c
  split
  · exact dTwin_len s c
  split
  · simp
  · exact dPairs_len _ s c

theorem dTake_ok (e : Int) (c : UInt8) : ∀ (n : Nat) (s : St) (l : List Int), dOk e s → dOk e (dTake e c n s l).1
  | 0, _, _, h => h
  | n + 1, s, l, h => by
    unfold dTake
    split
    · exact dTake_ok e c n _ _ (dOne_ok e s c h)
    · exact dOne_ok e s c h
theorem dTake_len (e : Int) (c : UInt8) : ∀ (n : Nat) (s : St) (l : List Int), (dTake e c n s l).2.length ≤ l.length + 2 * n
  | 0, _, _ => Nat.le_add_right _ _
  | n + 1, s, l => by
    have h := dOne_len e s c
    unfold dTake
    split
    · refine Nat.le_trans (dTake_len e c n _ _) ?_
      rw [List.length_append]
      omega
    · rw [List.length_append]
      omega
theorem dStep_ok (e : Int) (s : St) (c : UInt8) (h : dOk e s) : dOk e (dStep e s c).1 := dTake_ok e c 3 s [] h
theorem dStep_len (e : Int) (s : St) (c : UInt8) : (dStep e s c).2.length ≤ 6 := dTake_len e c 3 s []
theorem dFeed_ok (e : Int) : ∀ (l : List UInt8) (s : St), dOk e s → dOk e (dFeed e s l).1
  | [], _, h => h
  | c :: l, s, h => dFeed_ok e l _ (dStep_ok e s c h)
theorem dFeed_len (e : Int) : ∀ (l : List UInt8) (s : St), (dFeed e s l).2.length ≤ 6 * l.length
  | [], _ => Nat.le_refl _
  | c :: l, s => by
    have h1 := dStep_len e s c
    have h2 := dFeed_len e l (dStep e s c).1
    show (_ ++ _ : List Int).length ≤ _
    rw [List.length_append, List.length_cons]
    omega
theorem dEnd_len (s : St) : (dEnd s).length ≤ 2 := by
  unfold dEnd
  rw [List.length_append]
  have h1 : (if 0 < s.need ∨ s.half ≠ 0 ∨ s.kept ≠ [] then [-1] else [] : List Int).length ≤ 1 := by split <;> simp
  have h2 : (match s.kept with | [_, x] => if s.mode = 0 then [byte x] else [-1] | _ => [] : List Int).length ≤ 1 := by
    split
    · split <;> simp
    · simp
  exact Nat.add_le_add h1 h2
end Go.Proofs.YtefohnbmifblkaaDoor.Pl

/-
  Plain: what an automaton accepts is told without anything wrong.
-/
namespace Go.Proofs.YtefohnbmifblkaaDoor.Pl

def aRun (e : Int) : Int → List UInt8 → Int
  | a, [] => a
  | a, c :: l => aRun e (aStep e a (byte c)) l

/-- the automaton's state a says where the decoder is. -/
def rUtf (s : St) (a : Int) : Prop :=
  (a = 0 ∧ s = st0) ∨ (0 ≤ s.code ∧ ((a = 1 ∧ s.need = 1 ∧ s.fr = 128 ∧ s.to = 191) ∨ (a = 2 ∧ s.need = 2 ∧ s.fr = 128 ∧ s.to = 191) ∨ (a = 3 ∧ s.need = 3 ∧ s.fr = 128 ∧ s.to = 191) ∨
  (a = 4 ∧ s.need = 2 ∧ s.fr = 160 ∧ s.to = 191) ∨ (a = 5 ∧ s.need = 2 ∧ s.fr = 128 ∧ s.to = 159) ∨ (a = 6 ∧ s.need = 3 ∧ s.fr = 144 ∧ s.to = 191) ∨ (a = 7 ∧ s.need = 3 ∧ s.fr = 128 ∧ s.to = 143)))
theorem aUtf_1 (b : Int) : aUtf 1 b = if 128 ≤ b ∧ b ≤ 191 then 0 else 9 := by simp [aUtf]
theorem aUtf_2 (b : Int) : aUtf 2 b = if 128 ≤ b ∧ b ≤ 191 then 1 else 9 := by simp [aUtf]
theorem aUtf_3 (b : Int) : aUtf 3 b = if 128 ≤ b ∧ b ≤ 191 then 2 else 9 := by simp [aUtf]
theorem aUtf_4 (b : Int) : aUtf 4 b = if 160 ≤ b ∧ b ≤ 191 then 1 else 9 := by simp [aUtf]
theorem aUtf_5 (b : Int) : aUtf 5 b = if 128 ≤ b ∧ b ≤ 159 then 1 else 9 := by simp [aUtf]
theorem aUtf_6 (b : Int) : aUtf 6 b = if 144 ≤ b ∧ b ≤ 191 then 2 else 9 := by simp [aUtf]
theorem aUtf_7 (b : Int) : aUtf 7 b = if 128 ≤ b ∧ b ≤ 143 then 2 else 9 := by simp [aUtf]
theorem rUtf_step (s : St) (a : Int) (c : UInt8) (h : rUtf s a) (h9 : aUtf a (byte c) ≠ 9) :
    rUtf (dUtf s c).1 (aUtf a (byte c)) ∧ (-1 : Int) ∉ (dUtf s c).2.1 ∧ (dUtf s c).2.2 = false := by
  have hc := c.toNat_lt
  unfold rUtf at h
  unfold dUtf
  unfold byte at h9 ⊢
  rcases h with ⟨rfl, rfl⟩ | ⟨h0, h⟩
  · have hn : st0.need = 0 := rfl
    rw [if_pos hn]
    have key : c.toNat < 128 ∨ (194 ≤ c.toNat ∧ c.toNat ≤ 223) ∨ c.toNat = 224 ∨ c.toNat = 237 ∨ (225 ≤ c.toNat ∧ c.toNat ≤ 239 ∧ c.toNat ≠ 237) ∨ c.toNat = 240 ∨ (241 ≤ c.toNat ∧ c.toNat ≤ 243) ∨ c.toNat = 244 := by
      refine Classical.byContradiction fun hk => h9 ?_
      unfold aUtf
      repeat rw [if_neg (by omega)]
    clear h9
    rcases key with h | h | h | h | h | h | h | h <;> unfold aUtf
    all_goals
      repeat (first | rw [if_pos (by omega)] | rw [if_neg (by omega)])
      refine ⟨?_, ?_, rfl⟩
      · unfold rUtf
        first
          | exact .inl ⟨rfl, rfl⟩
          | (refine .inr ⟨by dsimp only; omega, ?_⟩; dsimp only; omega)
      · simp
        try omega
  · have key : (a = 1 ∧ s.need = 1 ∧ s.fr ≤ c.toNat ∧ c.toNat ≤ s.to ∧ aUtf a c.toNat = 0) ∨ (a = 2 ∧ s.need = 2 ∧ s.fr ≤ c.toNat ∧ c.toNat ≤ s.to ∧ aUtf a c.toNat = 1) ∨ (a = 3 ∧ s.need = 3 ∧ s.fr ≤ c.toNat ∧ c.toNat ≤ s.to ∧ aUtf a c.toNat = 2) ∨
      (a = 4 ∧ s.need = 2 ∧ s.fr ≤ c.toNat ∧ c.toNat ≤ s.to ∧ aUtf a c.toNat = 1) ∨ (a = 5 ∧ s.need = 2 ∧ s.fr ≤ c.toNat ∧ c.toNat ≤ s.to ∧ aUtf a c.toNat = 1) ∨ (a = 6 ∧ s.need = 3 ∧ s.fr ≤ c.toNat ∧ c.toNat ≤ s.to ∧ aUtf a c.toNat = 2) ∨ (a = 7 ∧ s.need = 3 ∧ s.fr ≤ c.toNat ∧ c.toNat ≤ s.to ∧ aUtf a c.toNat = 2) := by
      rcases h with ⟨rfl, h1, h2, h3⟩ | ⟨rfl, h1, h2, h3⟩ | ⟨rfl, h1, h2, h3⟩ | ⟨rfl, h1, h2, h3⟩ | ⟨rfl, h1, h2, h3⟩ | ⟨rfl, h1, h2, h3⟩ | ⟨rfl, h1, h2, h3⟩
      · rw [aUtf_1] at h9 ⊢
        have hr : 128 ≤ (c.toNat : Int) ∧ (c.toNat : Int) ≤ 191 := Classical.byContradiction fun hk => h9 (if_neg hk)
        exact .inl ⟨rfl, h1, by omega, by omega, if_pos hr⟩
      · rw [aUtf_2] at h9 ⊢
        have hr : 128 ≤ (c.toNat : Int) ∧ (c.toNat : Int) ≤ 191 := Classical.byContradiction fun hk => h9 (if_neg hk)
        exact .inr (.inl ⟨rfl, h1, by omega, by omega, if_pos hr⟩)
      · rw [aUtf_3] at h9 ⊢
        have hr : 128 ≤ (c.toNat : Int) ∧ (c.toNat : Int) ≤ 191 := Classical.byContradiction fun hk => h9 (if_neg hk)
        exact .inr (.inr (.inl ⟨rfl, h1, by omega, by omega, if_pos hr⟩))
      · rw [aUtf_4] at h9 ⊢
        have hr : 160 ≤ (c.toNat : Int) ∧ (c.toNat : Int) ≤ 191 := Classical.byContradiction fun hk => h9 (if_neg hk)
        exact .inr (.inr (.inr (.inl ⟨rfl, h1, by omega, by omega, if_pos hr⟩)))
      · rw [aUtf_5] at h9 ⊢
        have hr : 128 ≤ (c.toNat : Int) ∧ (c.toNat : Int) ≤ 159 := Classical.byContradiction fun hk => h9 (if_neg hk)
        exact .inr (.inr (.inr (.inr (.inl ⟨rfl, h1, by omega, by omega, if_pos hr⟩))))
      · rw [aUtf_6] at h9 ⊢
        have hr : 144 ≤ (c.toNat : Int) ∧ (c.toNat : Int) ≤ 191 := Classical.byContradiction fun hk => h9 (if_neg hk)
        exact .inr (.inr (.inr (.inr (.inr (.inl ⟨rfl, h1, by omega, by omega, if_pos hr⟩)))))
      · rw [aUtf_7] at h9 ⊢
        have hr : 128 ≤ (c.toNat : Int) ∧ (c.toNat : Int) ≤ 143 := Classical.byContradiction fun hk => h9 (if_neg hk)
        exact .inr (.inr (.inr (.inr (.inr (.inr (⟨rfl, h1, by omega, by omega, if_pos hr⟩))))))
    have hnb : ¬ ((c.toNat : Int) < s.fr ∨ s.to < (c.toNat : Int)) := by omega
    have hn0 : ¬ s.need = 0 := by omega
    rw [if_neg hn0, if_neg hnb]
    unfold rUtf
    rcases key with h | h | h | h | h | h | h
    all_goals
      rw [h.2.2.2.2]
      repeat (first | rw [if_pos (by omega)] | rw [if_neg (by omega)])
      refine ⟨?_, ?_, rfl⟩
      · first
          | exact .inl ⟨rfl, rfl⟩
          | (refine .inr ⟨by dsimp only; omega, ?_⟩; dsimp only; omega)
      · simp
        try omega
theorem rUtf_end (s : St) (h : rUtf s 0) : (-1 : Int) ∉ dEnd s := by
  unfold rUtf at h
  have hs : s = st0 := by
    rcases h with h | h
    · exact h.2
    · omega
  subst hs
  simp [dEnd, st0]

/-- shift. -/
def rShift (s : St) (a : Int) : Prop :=
  s.need = 0 ∧ s.half = 0 ∧ ((a = 0 ∧ s.mode = 0 ∧ s.kept = []) ∨ (a = 1 ∧ s.mode = 1 ∧ s.kept = []) ∨ (a = 2 ∧ s.mode = 0 ∧ s.kept = [27]) ∨ (a = 3 ∧ s.mode = 0 ∧ s.kept = [27, 40]) ∨ (a = 4 ∧ s.mode = 0 ∧ s.kept = [27, 36]) ∨
  (a = 5 ∧ s.mode = 1 ∧ s.kept = [27]) ∨ (a = 6 ∧ s.mode = 1 ∧ s.kept = [27, 40]) ∨ (a = 7 ∧ s.mode = 1 ∧ s.kept = [27, 36]) ∨ (a = 8 ∧ s.mode = 1 ∧ ∃ l : UInt8, s.kept = [l] ∧ 33 ≤ l.toNat ∧ l.toNat ≤ 126))
theorem byte_eq (c : UInt8) (n : Nat) (hn : n < 256) (h : c.toNat = n) : c = UInt8.ofNat n := by
  refine UInt8.toNat_inj.1 ?_
  rw [h, UInt8.toNat_ofNat']
  omega
theorem rShift_step (s : St) (a : Int) (c : UInt8) (h : rShift s a) (h9 : aShift a (byte c) ≠ 9) :
    rShift (dShift s c).1 (aShift a (byte c)) ∧ (-1 : Int) ∉ (dShift s c).2.1 ∧ (dShift s c).2.2 = false := by
  have hc := c.toNat_lt
  obtain ⟨hn, hh, h⟩ := h
  unfold byte at h9 ⊢
  have fin : ∀ x : Int, aShift a (c.toNat : Int) = x → rShift (dShift s c).1 x ∧ (-1 : Int) ∉ (dShift s c).2.1 ∧ (dShift s c).2.2 = false → rShift (dShift s c).1 (aShift a (c.toNat : Int)) ∧ (-1 : Int) ∉ (dShift s c).2.1 ∧ (dShift s c).2.2 = false := by
    intro x hx h
    rw [hx]
    exact h
  rcases h with ⟨rfl, hm, hk⟩ | ⟨rfl, hm, hk⟩ | ⟨rfl, hm, hk⟩ | ⟨rfl, hm, hk⟩ | ⟨rfl, hm, hk⟩ | ⟨rfl, hm, hk⟩ | ⟨rfl, hm, hk⟩ | ⟨rfl, hm, hk⟩ | ⟨rfl, hm, l, hk, hl0, hl1⟩
  · have key : c.toNat = 27 ∨ (c.toNat < 128 ∧ c.toNat ≠ 27 ∧ c.toNat ≠ 14 ∧ c.toNat ≠ 15) := by
      unfold aShift at h9
      omega
    rcases key with h | h
    · refine fin 2 (by unfold aShift; omega) ?_
      unfold dShift
      simp [hk, h, rShift, keep, hn, hh, hm]
    · refine fin 0 (by unfold aShift; omega) ?_
      unfold dShift
      have h3 : ¬ (128 ≤ c.toNat ∨ c.toNat = 14 ∨ c.toNat = 15) := by omega
      simp [hk, h.2.1, h3, rShift, hn, hh, hm, byte]
  · have key : c.toNat = 27 ∨ c.toNat = 10 ∨ (33 ≤ c.toNat ∧ c.toNat ≤ 126) := by
      unfold aShift at h9
      omega
    rcases key with h | h | h
    · refine fin 5 (by unfold aShift; omega) ?_
      unfold dShift
      simp [hk, h, rShift, keep, hn, hh, hm]
    · refine fin 0 (by unfold aShift; omega) ?_
      unfold dShift
      simp [hk, h, rShift, hm, st0]
    · refine fin 8 (by unfold aShift; omega) ?_
      unfold dShift
      have h1 : c.toNat ≠ 27 := by omega
      have h2 : c.toNat ≠ 10 := by omega
      have h3 : ¬ (c.toNat < 33 ∨ 126 < c.toNat) := by omega
      simp [hk, h1, h2, h3, rShift, keep, hn, hh, hm, h]
  · have key : c.toNat = 40 ∨ c.toNat = 36 := by
      unfold aShift at h9
      omega
    rcases key with h | h
    · refine fin 3 (by unfold aShift; omega) ?_
      unfold dShift
      simp [hk, rShift, keep, hn, hh, hm, byte_eq c _ (by omega) h]
    · refine fin 4 (by unfold aShift; omega) ?_
      unfold dShift
      simp [hk, rShift, keep, hn, hh, hm, byte_eq c _ (by omega) h]
  · have h : c.toNat = 66 := by
      unfold aShift at h9
      omega
    refine fin 0 (by unfold aShift; omega) ?_
    unfold dShift
    simp [hk, h, rShift, st0]
  · have h : c.toNat = 66 := by
      unfold aShift at h9
      omega
    refine fin 1 (by unfold aShift; omega) ?_
    unfold dShift
    simp [hk, h, rShift]
  · have key : c.toNat = 40 ∨ c.toNat = 36 := by
      unfold aShift at h9
      omega
    rcases key with h | h
    · refine fin 6 (by unfold aShift; omega) ?_
      unfold dShift
      simp [hk, rShift, keep, hn, hh, hm, byte_eq c _ (by omega) h]
    · refine fin 7 (by unfold aShift; omega) ?_
      unfold dShift
      simp [hk, rShift, keep, hn, hh, hm, byte_eq c _ (by omega) h]
  · have h : c.toNat = 66 := by
      unfold aShift at h9
      omega
    refine fin 0 (by unfold aShift; omega) ?_
    unfold dShift
    simp [hk, h, rShift, st0]
  · have h : c.toNat = 66 := by
      unfold aShift at h9
      omega
    refine fin 1 (by unfold aShift; omega) ?_
    unfold dShift
    simp [hk, h, rShift]
  · have h : 33 ≤ c.toNat ∧ c.toNat ≤ 126 := by
      unfold aShift at h9
      omega
    refine fin 1 (by unfold aShift; omega) ?_
    have h1 : c.toNat ≠ 27 := by omega
    have h3 : ¬ (c.toNat < 33 ∨ 126 < c.toNat) := by omega
    have h4 : l ≠ 27 := by
      rintro rfl
      exact absurd hl0 (by decide)
    unfold dShift
    simp [hk, h1, h3, h4, rShift, keep, hn, hh, hm, byte]
    omega
theorem rShift_end (s : St) (a : Int) (h : rShift s a) (ha : a = 0 ∨ a = 1) : (-1 : Int) ∉ dEnd s := by
  obtain ⟨hn, hh, h⟩ := h
  have hk : s.kept = [] := by
    rcases h with h | h | h | h | h | h | h | h | h
    · exact h.2.2
    · exact h.2.2
    all_goals omega
  simp [dEnd, hn, hh, hk]

def rTwin (s : St) (a : Int) : Prop :=
  s.need = 0 ∧ s.half = 0 ∧ ((a = 0 ∧ s.kept = []) ∨ (a = 1 ∧ ∃ l : UInt8, s.kept = [l] ∧ 129 ≤ l.toNat ∧ l.toNat ≤ 159))
theorem rTwin_step (s : St) (a : Int) (c : UInt8) (h : rTwin s a) (h9 : aTwin a (byte c) ≠ 9) :
    rTwin (dTwin s c).1 (aTwin a (byte c)) ∧ (-1 : Int) ∉ (dTwin s c).2.1 ∧ (dTwin s c).2.2 = false := by
  have hc := c.toNat_lt
  obtain ⟨hn, hh, h⟩ := h
  unfold byte at h9 ⊢
  have fin : ∀ x : Int, aTwin a (c.toNat : Int) = x → rTwin (dTwin s c).1 x ∧ (-1 : Int) ∉ (dTwin s c).2.1 ∧ (dTwin s c).2.2 = false → rTwin (dTwin s c).1 (aTwin a (c.toNat : Int)) ∧ (-1 : Int) ∉ (dTwin s c).2.1 ∧ (dTwin s c).2.2 = false := by
    intro x hx h
    rw [hx]
    exact h
  rcases h with ⟨rfl, hk⟩ | ⟨rfl, l, hk, hl0, hl1⟩
  · have key : c.toNat < 128 ∨ (161 ≤ c.toNat ∧ c.toNat ≤ 223) ∨ (129 ≤ c.toNat ∧ c.toNat ≤ 159) := by
      unfold aTwin at h9
      omega
    rcases key with h | h | h
    · refine fin 0 (by unfold aTwin; omega) ?_
      unfold dTwin
      simp [hk, h, rTwin, hn, hh, byte]
    · refine fin 0 (by unfold aTwin; omega) ?_
      have h1 : ¬ c.toNat < 128 := by omega
      have h2 : ¬ (129 ≤ c.toNat ∧ c.toNat ≤ 159) := by omega
      unfold dTwin
      rw [hk]
      simp only [h1, h2, h, if_true, if_false, and_self]
      simp [rTwin, hk, hn, hh, byte]
      omega
    · refine fin 1 (by unfold aTwin; omega) ?_
      have h1 : ¬ c.toNat < 128 := by omega
      unfold dTwin
      rw [hk]
      simp only [h1, h, if_true, if_false, and_self]
      simp [rTwin, hn, hh, h]
  · have key : (64 ≤ c.toNat ∧ c.toNat ≤ 126) ∨ (128 ≤ c.toNat ∧ c.toNat ≤ 252) := by
      unfold aTwin at h9
      omega
    refine fin 0 (by unfold aTwin; omega) ?_
    unfold dTwin
    rw [hk]
    rcases key with h | h
    · simp only [h, if_true, and_self]
      simp [rTwin, hn, hh, byte]
      omega
    · have h1 : ¬ (64 ≤ c.toNat ∧ c.toNat ≤ 126) := by omega
      simp only [h, h1, if_true, if_false, and_self]
      simp [rTwin, hn, hh, byte]
      omega
theorem rTwin_end (s : St) (h : rTwin s 0) : (-1 : Int) ∉ dEnd s := by
  obtain ⟨hn, hh, h⟩ := h
  have hk : s.kept = [] := by
    rcases h with h | h
    · exact h.2
    · omega
  simp [dEnd, hn, hh, hk]

def rPairs (low : Bool) (s : St) (a : Int) : Prop :=
  s.need = 0 ∧ (if low then
    (a = 0 ∧ s.half = 0 ∧ s.kept = []) ∨ (a = 1 ∧ s.half = 0 ∧ ∃ l : UInt8, s.kept = [l]) ∨ (a = 2 ∧ (55296 ≤ s.half ∧ s.half ≤ 56319) ∧ s.kept = []) ∨ (a = 3 ∧ (55296 ≤ s.half ∧ s.half ≤ 56319) ∧ ∃ l : UInt8, s.kept = [l])
  else
    (a = 0 ∧ s.half = 0 ∧ s.kept = []) ∨ (a = 1 ∧ s.half = 0 ∧ ∃ l : UInt8, s.kept = [l] ∧ ¬ (216 ≤ l.toNat ∧ l.toNat ≤ 223)) ∨ (a = 2 ∧ s.half = 0 ∧ ∃ l : UInt8, s.kept = [l] ∧ 216 ≤ l.toNat ∧ l.toNat ≤ 219) ∨
    (a = 3 ∧ (55296 ≤ s.half ∧ s.half ≤ 56319) ∧ s.kept = []) ∨ (a = 4 ∧ (55296 ≤ s.half ∧ s.half ≤ 56319) ∧ ∃ l : UInt8, s.kept = [l] ∧ 220 ≤ l.toNat ∧ l.toNat ≤ 223))
theorem rPairs_low (s : St) (a : Int) (c : UInt8) (h : rPairs true s a) (h9 : aLow a (byte c) ≠ 9) :
    rPairs true (dPairs true s c).1 (aLow a (byte c)) ∧ (-1 : Int) ∉ (dPairs true s c).2.1 ∧ (dPairs true s c).2.2 = false := by
  have hc := c.toNat_lt
  obtain ⟨hn, h⟩ := h
  rw [if_pos rfl] at h
  unfold byte at h9 ⊢
  have fin : ∀ x : Int, aLow a (c.toNat : Int) = x → rPairs true (dPairs true s c).1 x ∧ (-1 : Int) ∉ (dPairs true s c).2.1 ∧ (dPairs true s c).2.2 = false → rPairs true (dPairs true s c).1 (aLow a (c.toNat : Int)) ∧ (-1 : Int) ∉ (dPairs true s c).2.1 ∧ (dPairs true s c).2.2 = false := by
    intro x hx h
    rw [hx]
    exact h
  rcases h with ⟨rfl, hh, hk⟩ | ⟨rfl, hh, l, hk⟩ | ⟨rfl, hh, hk⟩ | ⟨rfl, hh, l, hk⟩
  · refine fin 1 (by unfold aLow; omega) ?_
    unfold dPairs
    rw [hk]
    simp [rPairs, keep, hn, hh]
  · have hl := l.toNat_lt
    have key : (216 ≤ c.toNat ∧ c.toNat ≤ 219) ∨ (c.toNat < 220 ∧ ¬ (216 ≤ c.toNat ∧ c.toNat ≤ 219)) ∨ 223 < c.toNat := by
      unfold aLow at h9
      omega
    unfold dPairs byte at fin ⊢
    rw [hk] at fin ⊢
    dsimp only at fin ⊢
    rw [if_pos rfl, if_neg (by omega)] at fin ⊢
    rcases key with h | h | h
    · rw [if_pos (by omega)] at fin ⊢
      refine fin 2 (by unfold aLow; omega) ?_
      simp [rPairs, hn]
      omega
    · rw [if_neg (by omega), if_neg (by omega)] at fin ⊢
      refine fin 0 (by unfold aLow; omega) ?_
      simp [rPairs, hn]
      omega
    · rw [if_neg (by omega), if_neg (by omega)] at fin ⊢
      refine fin 0 (by unfold aLow; omega) ?_
      simp [rPairs, hn]
      omega
  · refine fin 3 (by unfold aLow; omega) ?_
    unfold dPairs
    rw [hk]
    simp [rPairs, keep, hn, hh]
  · have hl := l.toNat_lt
    have key : 220 ≤ c.toNat ∧ c.toNat ≤ 223 := by
      unfold aLow at h9
      omega
    unfold dPairs byte at fin ⊢
    rw [hk] at fin ⊢
    dsimp only at fin ⊢
    rw [if_pos rfl, if_pos (by omega), if_pos (by omega)] at fin ⊢
    refine fin 0 (by unfold aLow; omega) ?_
    simp [rPairs, hn]
    omega
theorem rPairs_high (s : St) (a : Int) (c : UInt8) (h : rPairs false s a) (h9 : aHigh a (byte c) ≠ 9) :
    rPairs false (dPairs false s c).1 (aHigh a (byte c)) ∧ (-1 : Int) ∉ (dPairs false s c).2.1 ∧ (dPairs false s c).2.2 = false := by
  have hc := c.toNat_lt
  obtain ⟨hn, h⟩ := h
  rw [if_neg (by decide)] at h
  unfold byte at h9 ⊢
  have fin : ∀ x : Int, aHigh a (c.toNat : Int) = x → rPairs false (dPairs false s c).1 x ∧ (-1 : Int) ∉ (dPairs false s c).2.1 ∧ (dPairs false s c).2.2 = false → rPairs false (dPairs false s c).1 (aHigh a (c.toNat : Int)) ∧ (-1 : Int) ∉ (dPairs false s c).2.1 ∧ (dPairs false s c).2.2 = false := by
    intro x hx h
    rw [hx]
    exact h
  rcases h with ⟨rfl, hh, hk⟩ | ⟨rfl, hh, l, hk, hl⟩ | ⟨rfl, hh, l, hk, hl⟩ | ⟨rfl, hh, hk⟩ | ⟨rfl, hh, l, hk, hl⟩
  · have key : (216 ≤ c.toNat ∧ c.toNat ≤ 219) ∨ ¬ (216 ≤ c.toNat ∧ c.toNat ≤ 223) := by
      unfold aHigh at h9
      omega
    unfold dPairs at fin ⊢
    rw [hk] at fin ⊢
    dsimp only at fin ⊢
    rcases key with h | h
    · refine fin 2 (by unfold aHigh; omega) ?_
      simp [rPairs, keep, hn, hh]
      omega
    · refine fin 1 (by unfold aHigh; omega) ?_
      simp [rPairs, keep, hn, hh]
      omega
  · have hl := l.toNat_lt
    refine fin 0 (by unfold aHigh; omega) ?_
    unfold dPairs byte
    rw [hk]
    dsimp only
    simp only [Bool.false_eq_true, if_false]
    rw [if_neg (by omega), if_neg (by omega), if_neg (by omega)]
    simp [rPairs, hn]
    omega
  · have hl := l.toNat_lt
    refine fin 3 (by unfold aHigh; omega) ?_
    unfold dPairs byte
    rw [hk]
    dsimp only
    simp only [Bool.false_eq_true, if_false]
    rw [if_neg (by omega), if_pos (by omega)]
    simp [rPairs, hn]
    omega
  · have key : 220 ≤ c.toNat ∧ c.toNat ≤ 223 := by
      unfold aHigh at h9
      omega
    refine fin 4 (by unfold aHigh; omega) ?_
    unfold dPairs
    rw [hk]
    simp [rPairs, keep, hn, hh, key]
  · refine fin 0 (by unfold aHigh; omega) ?_
    unfold dPairs byte
    rw [hk]
    dsimp only
    simp only [Bool.false_eq_true, if_false]
    rw [if_pos (by omega), if_pos (by omega)]
    simp [rPairs, hn]
    omega
theorem rPairs_end (low : Bool) (s : St) (h : rPairs low s 0) : (-1 : Int) ∉ dEnd s := by
  obtain ⟨hn, h⟩ := h
  cases low
  · have hk : s.half = 0 ∧ s.kept = [] := by
      rw [if_neg (by decide)] at h
      rcases h with h | h | h | h | h
      · exact h.2
      all_goals omega
    simp [dEnd, hn, hk]
  · have hk : s.half = 0 ∧ s.kept = [] := by
      rw [if_pos rfl] at h
      rcases h with h | h | h | h
      · exact h.2
      all_goals omega
    simp [dEnd, hn, hk]

def Rel (e : Int) (s : St) (a : Int) : Prop :=
  (e = 1 ∧ rUtf s a) ∨ (e = 2 ∧ rShift s a) ∨ (e = 3 ∧ rTwin s a) ∨ (e = 4 ∧ s = st0 ∧ a = 0) ∨ (e = 5 ∧ rPairs true s a) ∨ (e = 6 ∧ rPairs false s a)
theorem rel_one (e : Int) (s : St) (a : Int) (c : UInt8) (h : Rel e s a) (h9 : aStep e a (byte c) ≠ 9) :
    Rel e (dOne e s c).1 (aStep e a (byte c)) ∧ (-1 : Int) ∉ (dOne e s c).2.1 ∧ (dOne e s c).2.2 = false := by
  have ha : a ≠ 9 := by
    rintro rfl
    exact h9 rfl
  have hz : aStep e a (byte c) = (if e = 1 then aUtf a (byte c) else if e = 2 then aShift a (byte c) else if e = 3 then aTwin a (byte c) else if e = 4 then (if a = 0 then aLatin (byte c) else 9) else if e = 5 then aLow a (byte c) else if e = 6 then aHigh a (byte c) else 9) := by
    unfold aStep
    rw [if_neg ha]
  rw [hz] at h9 ⊢
  unfold dOne Rel
  rcases h with ⟨rfl, h⟩ | ⟨rfl, h⟩ | ⟨rfl, h⟩ | ⟨rfl, rfl, rfl⟩ | ⟨rfl, h⟩ | ⟨rfl, h⟩
  · have := rUtf_step s a c h h9
    simpa using this
  · have := rShift_step s a c h h9
    simpa using this
  · have := rTwin_step s a c h h9
    simpa using this
  · have h8 : aLatin (byte c) ≠ 9 := h9
    have hc := c.toNat_lt
    have hb : byte c = (c.toNat : Int) := rfl
    have h7 : aLatin (byte c) = 0 := by
      unfold aLatin at h8 ⊢
      omega
    have h6 : ¬ (c.toNat = 129 ∨ c.toNat = 141 ∨ c.toNat = 143 ∨ c.toNat = 144 ∨ c.toNat = 157) := by
      unfold aLatin at h8
      omega
    have h5 : ¬ (-1 : Int) = dLatin c := by
      unfold dLatin
      rw [if_neg h6]
      split <;> omega
    simp [h7, h5]
  · have := rPairs_low s a c h h9
    simpa using this
  · have := rPairs_high s a c h h9
    simpa using this
theorem rel_step (e : Int) (s : St) (a : Int) (c : UInt8) (h : Rel e s a) (h9 : aStep e a (byte c) ≠ 9) :
    Rel e (dStep e s c).1 (aStep e a (byte c)) ∧ (-1 : Int) ∉ (dStep e s c).2 := by
  obtain ⟨h1, h2, h3⟩ := rel_one e s a c h h9
  unfold dStep dTake
  rw [h3]
  simpa using ⟨h1, h2⟩
theorem aStep_nine (e b : Int) : aStep e 9 b = 9 := by
  unfold aStep
  rw [if_pos rfl]
theorem aRun_nine (e : Int) : ∀ l : List UInt8, aRun e 9 l = 9
  | [] => rfl
  | c :: l => by
    unfold aRun
    rw [aStep_nine]
    exact aRun_nine e l
theorem rel_run (e : Int) : ∀ (l : List UInt8) (s : St) (a : Int), Rel e s a → aRun e a l ≠ 9 → Rel e (dFeed e s l).1 (aRun e a l) ∧ (-1 : Int) ∉ (dFeed e s l).2
  | [], _, _, h, _ => ⟨h, by simp [dFeed]⟩
  | c :: l, s, a, h, h9 => by
    have hs : aStep e a (byte c) ≠ 9 := by
      intro hs
      apply h9
      unfold aRun
      rw [hs]
      exact aRun_nine e l
    obtain ⟨h1, h2⟩ := rel_step e s a c h hs
    obtain ⟨h3, h4⟩ := rel_run e l _ _ h1 h9
    refine ⟨h3, ?_⟩
    show (-1 : Int) ∉ _ ++ _
    simp [h2, h4]
theorem rel_zero (e : Int) (h : 1 ≤ e ∧ e ≤ 6) : Rel e st0 0 := by
  unfold Rel
  have : e = 1 ∨ e = 2 ∨ e = 3 ∨ e = 4 ∨ e = 5 ∨ e = 6 := by omega
  rcases this with rfl | rfl | rfl | rfl | rfl | rfl
  · exact .inl ⟨rfl, .inl ⟨rfl, rfl⟩⟩
  all_goals simp [rShift, rTwin, rPairs, st0]
/-- what is accepted is told without anything wrong. -/
theorem told_right (e : Int) (he : 1 ≤ e ∧ e ≤ 6) (l : List UInt8) (h : aEnds e (aRun e 0 l) = true) : (-1 : Int) ∉ dWhole e l := by
  have ha : aRun e 0 l = 0 ∨ (e = 2 ∧ aRun e 0 l = 1) := by
    simpa [aEnds] using h
  obtain ⟨h1, h2⟩ := rel_run e l st0 0 (rel_zero e he) (by omega)
  unfold dWhole
  rw [List.mem_append]
  rintro (h3 | h3)
  · exact h2 h3
  · revert h3
    show (-1 : Int) ∉ _
    rcases h1 with ⟨rfl, h1⟩ | ⟨rfl, h1⟩ | ⟨rfl, h1⟩ | ⟨rfl, h1, _⟩ | ⟨rfl, h1⟩ | ⟨rfl, h1⟩
    · have : aRun 1 0 l = 0 := by omega
      rw [this] at h1
      exact rUtf_end _ h1
    · exact rShift_end _ _ h1 (by omega)
    · have : aRun 3 0 l = 0 := by omega
      rw [this] at h1
      exact rTwin_end _ h1
    · rw [h1]
      decide
    · have : aRun 5 0 l = 0 := by omega
      rw [this] at h1
      exact rPairs_end _ _ h1
    · have : aRun 6 0 l = 0 := by omega
      rw [this] at h1
      exact rPairs_end _ _ h1
end Go.Proofs.YtefohnbmifblkaaDoor.Pl

/-
  Plain decode: shift and pairs, state by state.
-/
namespace Go.Proofs.YtefohnbmifblkaaDoor.Pl

theorem shift_nil0 (c : UInt8) : dShift ⟨0, 0, 0, 0, [], 0, 0⟩ c = if c.toNat = 27 then (⟨0, 0, 0, 0, [27], 0, 0⟩, [], false) else (⟨0, 0, 0, 0, [], 0, 0⟩, [if 128 ≤ c.toNat ∨ c.toNat = 14 ∨ c.toNat = 15 then -1 else byte c], false) := by
  unfold dShift
  simp [keep]
theorem shift_nil1 (c : UInt8) : dShift ⟨0, 0, 0, 0, [], 0, 1⟩ c = if c.toNat = 27 then (⟨0, 0, 0, 0, [27], 0, 1⟩, [], false) else if c.toNat = 10 then (st0, [10], false) else if c.toNat < 33 ∨ 126 < c.toNat then (⟨0, 0, 0, 0, [], 0, 1⟩, [-1], false) else (⟨0, 0, 0, 0, [c], 0, 1⟩, [], false) := by
  unfold dShift
  simp [keep]
theorem shift_esc (m : Int) (c : UInt8) : dShift ⟨0, 0, 0, 0, [27], 0, m⟩ c = if c.toNat = 40 ∨ c.toNat = 36 then (⟨0, 0, 0, 0, [27, c], 0, m⟩, [], false) else (⟨0, 0, 0, 0, [], 0, m⟩, [-1], true) := by
  unfold dShift
  simp [keep]
theorem shift_two0 (c : UInt8) : dShift ⟨0, 0, 0, 0, [27, 40], 0, 0⟩ c = if c.toNat = 66 then (st0, [], false) else (⟨0, 0, 0, 0, [], 0, 0⟩, [-1, 40], true) := by
  unfold dShift
  simp [keep]
  rfl
theorem shift_two1 (c : UInt8) : dShift ⟨0, 0, 0, 0, [27, 40], 0, 1⟩ c = if c.toNat = 66 then (st0, [], false) else (⟨0, 0, 0, 0, [40], 0, 1⟩, [-1], true) := by
  unfold dShift
  simp [keep]
theorem shift_dol0 (c : UInt8) : dShift ⟨0, 0, 0, 0, [27, 36], 0, 0⟩ c = if c.toNat = 66 then (⟨0, 0, 0, 0, [], 0, 1⟩, [], false) else (⟨0, 0, 0, 0, [], 0, 0⟩, [-1, 36], true) := by
  unfold dShift
  simp [keep]
  rfl
theorem shift_dol1 (c : UInt8) : dShift ⟨0, 0, 0, 0, [27, 36], 0, 1⟩ c = if c.toNat = 66 then (⟨0, 0, 0, 0, [], 0, 1⟩, [], false) else (⟨0, 0, 0, 0, [36], 0, 1⟩, [-1], true) := by
  unfold dShift
  simp [keep]
theorem shift_lead (l c : UInt8) (h0 : 33 ≤ l.toNat) : dShift ⟨0, 0, 0, 0, [l], 0, 1⟩ c = if c.toNat = 27 then (⟨0, 0, 0, 0, [27], 0, 1⟩, [-1], false) else if c.toNat < 33 ∨ 126 < c.toNat then (⟨0, 0, 0, 0, [], 0, 1⟩, [-1], false) else (⟨0, 0, 0, 0, [], 0, 1⟩, [12288 + (byte l - 33) * 94 + byte c - 33], false) := by
  have h4 : l ≠ 27 := by
    rintro rfl
    exact absurd h0 (by decide)
  unfold dShift
  simp [keep, h4]
theorem pairs_nil (low : Bool) (h : Int) (c : UInt8) : dPairs low ⟨0, 0, 0, 0, [], h, 0⟩ c = (⟨0, 0, 0, 0, [c], h, 0⟩, [], false) := rfl
end Go.Proofs.YtefohnbmifblkaaDoor.Pl

/-
  Plain decode: in utf and in the pairs no more is told than there are bytes.
-/
namespace Go.Proofs.YtefohnbmifblkaaDoor.Pl

def pend1 (s : St) : Nat := if s.need = 0 then 0 else 1
def pend5 (s : St) : Nat := (if s.kept = [] then 0 else 1) + (if s.half = 0 then 0 else 2)

theorem utf_pend (s : St) (c : UInt8) : (dUtf s c).2.1.length + pend1 (dUtf s c).1 ≤ pend1 s + 1 ∧ ((dUtf s c).2.2 = true → (dUtf s c).1 = st0 ∧ (dUtf s c).2.1.length = 1 ∧ s.need ≠ 0) := by
  unfold dUtf
  by_cases hn : s.need = 0
  · rw [if_pos hn]
    repeat' split
    all_goals simp [pend1, hn]
  · rw [if_neg hn]
    repeat' split
    all_goals (simp [pend1, hn, st0]; try omega)
    all_goals (try split) <;> omega
theorem utf_step (s : St) (c : UInt8) : (dStep 1 s c).2.length + pend1 (dStep 1 s c).1 ≤ pend1 s + 1 := by
  have h1 := utf_pend s c
  have h2 := utf_pend st0 c
  have hz : st0.need = 0 := rfl
  have e : ∀ x : St, dOne 1 x c = dUtf x c := fun x => by unfold dOne; rw [if_pos rfl]
  unfold dStep dTake
  rw [e]
  by_cases ha : (dUtf s c).2.2 = true
  · obtain ⟨h3, h4, h5⟩ := h1.2 ha
    rw [if_pos ha, h3]
    unfold dTake
    rw [e]
    by_cases hb : (dUtf st0 c).2.2 = true
    · exact absurd hz (h2.2 hb).2.2
    · rw [if_neg hb]
      have hp : pend1 s = 1 := by unfold pend1; rw [if_neg h5]
      have hp0 : pend1 st0 = 0 := rfl
      have := h2.1
      rw [List.length_append, List.length_append, h4]
      simp only [List.length_nil]
      omega
  · rw [if_neg ha]
    simpa using h1.1
theorem pairs_step (e : Int) (he : e = 5 ∨ e = 6) (s : St) (c : UInt8) : (dStep e s c).2.length + pend5 (dStep e s c).1 ≤ pend5 s + 1 := by
  have e0 : dOne e s c = dPairs (e == 5) s c := by
    unfold dOne
    rw [if_neg (by omega), if_neg (by omega), if_neg (by omega), if_neg (by omega)]
  have ha : (dPairs (e == 5) s c).2.2 = false := by
    unfold dPairs
    split
    · rfl
    · dsimp only
      repeat' split
      all_goals rfl
  unfold dStep dTake
  rw [e0, ha]
  simp only [Bool.false_eq_true, if_false, List.nil_append]
  unfold dPairs
  split
  · rename_i hk
    by_cases hh : s.half = 0 <;> simp [pend5, keep, hk, hh]
  · rename_i hk
    dsimp only
    generalize (if (e == 5) = true then _ else _ : Int) = u
    repeat' split
    all_goals (simp [pend5, hk]; try omega)
    all_goals (repeat' split) <;> omega
theorem feed_pend (e : Int) (p : St → Nat) (h : ∀ s c, (dStep e s c).2.length + p (dStep e s c).1 ≤ p s + 1) : ∀ (l : List UInt8) (s : St), (dFeed e s l).2.length + p (dFeed e s l).1 ≤ p s + l.length
  | [], s => by simp [dFeed]
  | c :: l, s => by
    have h1 := h s c
    have h2 := feed_pend e p h l (dStep e s c).1
    show (_ ++ _ : List Int).length + p _ ≤ _
    rw [List.length_append, List.length_cons]
    show _ + p (dFeed e (dStep e s c).1 l).1 ≤ _
    omega
/-- in utf and in the pairs no more is told than there are bytes. -/
theorem whole_len (e : Int) (he : e = 1 ∨ e = 5 ∨ e = 6) (l : List UInt8) : (dWhole e l).length ≤ l.length := by
  unfold dWhole
  rw [List.length_append]
  rcases he with rfl | he
  · have h := feed_pend 1 pend1 utf_step l st0
    have hok := dFeed_ok 1 l st0 (dOk_zero 1 (by omega))
    have hz : pend1 st0 = 0 := rfl
    generalize dFeed 1 st0 l = r at h hok ⊢
    have hend : (dEnd r.1).length ≤ pend1 r.1 := by
      unfold dOk at hok
      simp at hok
      obtain ⟨h1, h2, _, _, h3⟩ := hok
      rcases h3 with h3 | h3
      · rw [h3]
        decide
      · unfold dEnd pend1
        rw [h1, h2]
        have : r.1.need ≠ 0 := by omega
        simp [this]
        split <;> simp
    omega
  · have h := feed_pend e pend5 (pairs_step e he) l st0
    have hok := dFeed_ok e l st0 (dOk_zero e (by omega))
    have hz : pend5 st0 = 0 := rfl
    generalize dFeed e st0 l = r at h hok ⊢
    have hend : (dEnd r.1).length ≤ pend5 r.1 := by
      have h' : r.1.need = 0 ∧ (r.1.kept = [] ∨ ∃ l : UInt8, r.1.kept = [l]) := by
        unfold dOk at hok
        rcases he with rfl | rfl <;> (simp at hok; exact ⟨hok.1, hok.2.2.2.2.2.2⟩)
      obtain ⟨h1, h2⟩ := h'
      unfold dEnd pend5
      rw [h1]
      rcases h2 with h2 | ⟨x, h2⟩
      · rw [h2]
        by_cases hh : r.1.half = 0 <;> simp [hh]
      · rw [h2]
        by_cases hh : r.1.half = 0 <;> simp [hh]
    omega
end Go.Proofs.YtefohnbmifblkaaDoor.Pl
