/-
  Plain functions for label and sniff, on lists of bytes: no program in sight.
-/
import Derived.Lib.IndexAny
import Derived.Lib.SlTrimSet
namespace Go.Proofs.YtefohnbmifblkaaDoor.Pl

/-- a byte as a small letter. -/
def small (c : UInt8) : UInt8 := if 65 ≤ c.toNat ∧ c.toNat ≤ 90 then c + 32 else c
theorem small_up {c : UInt8} (h1 : 65 ≤ c.toNat) (h2 : c.toNat ≤ 90) : (small c).toNat = c.toNat + 32 := by
  unfold small
  rw [if_pos ⟨h1, h2⟩, UInt8.toNat_add]
  show (c.toNat + 32) % 256 = _
  omega
theorem small_no {c : UInt8} (h : ¬ (65 ≤ c.toNat ∧ c.toNat ≤ 90)) : small c = c := by
  unfold small
  rw [if_neg h]

/-- 'charset=' -/
def key : List UInt8 := [99, 104, 97, 114, 115, 101, 116, 61]
/-- does the key's rest stand in front? (is, more) -/
def atK : List UInt8 → List UInt8 → Bool × Bool
  | [], _ => (true, false)
  | _ :: _, [] => (false, true)
  | k :: ks, b :: bs => if small b = k then atK ks bs else (false, false)

def ends : List UInt8 := [32, 9, 10, 13, 59, 34, 39, 62]
/-- value: behind the quote, if there is one. -/
def value2 (e s : List UInt8) : List UInt8 × Bool :=
  if Lib.indexAny s e < 0 ∨ 40 < Lib.indexAny s e then ([], decide (40 < Lib.indexAny s e) || decide (40 < s.length)) else (s.take (Lib.indexAny s e).toNat, true)
def value : List UInt8 → List UInt8 × Bool
  | [] => value2 ends []
  | b :: r => if b = 34 ∨ b = 39 then value2 [b] r else value2 ends (b :: r)

/-- label: -/
def lower (s : List UInt8) : List UInt8 := s.map small
def spaces : List UInt8 := [32, 9, 10, 12, 13]
def trim (s : List UInt8) : List UInt8 := lower (Lib.trimS s spaces)
def names : List (List UInt8 × Int) := [
  ([117, 116, 102, 45, 56], 1), ([117, 116, 102, 56], 1), ([117, 110, 105, 99, 111, 100, 101, 45, 49, 45, 49, 45, 117, 116, 102, 45, 56], 1),
  ([115, 104, 105, 102, 116], 2), ([105, 115, 111, 45, 50, 48, 50, 50], 2),
  ([116, 119, 105, 110], 3), ([120, 45, 116, 119, 105, 110], 3), ([109, 115, 95, 116, 119, 105, 110], 3),
  ([108, 97, 116, 105, 110], 4), ([108, 97, 116, 105, 110, 49], 4), ([97, 115, 99, 105, 105], 4), ([117, 115, 45, 97, 115, 99, 105, 105], 4), ([119, 105, 110, 100, 111, 119, 115, 45, 49, 50, 53, 50], 4),
  ([117, 116, 102, 45, 49, 54], 5), ([117, 116, 102, 45, 49, 54, 108, 101], 5),
  ([117, 116, 102, 45, 49, 54, 98, 101], 6)]
def look (t : List UInt8) : List (List UInt8 × Int) → Int
  | [] => 0
  | p :: r => if t = p.1 then p.2 else look t r
def find (s : List UInt8) : Int := if 40 < s.length then 0 else look (trim s) names

/-- sniff.Label behind the cut. -/
def labelIn (whole : Bool) : List UInt8 → Int × Bool
  | [] => (0, whole)
  | b :: r =>
    if (atK key (b :: r)).2 = true then (0, whole)
    else if (atK key (b :: r)).1 = false then labelIn whole r
    else if (value ((b :: r).drop 8)).2 = false then (0, whole)
    else if find (value ((b :: r).drop 8)).1 = 0 then labelIn whole r
    else if find (value ((b :: r).drop 8)).1 = 5 ∨ find (value ((b :: r).drop 8)).1 = 6 then (1, true)
    else (find (value ((b :: r).drop 8)).1, true)
def label (s : List UInt8) : Int × Bool := labelIn (decide (256 ≤ s.length)) (s.take 256)

/-- sniff.Mark. -/
def mark (s : List UInt8) : Int × Int :=
  if [239, 187, 191].isPrefixOf s = true then (1, 3)
  else if [255, 254].isPrefixOf s = true then (5, 2)
  else if [254, 255].isPrefixOf s = true then (6, 2)
  else (0, 0)
def may1 (m s : List UInt8) : Bool := decide (s.length < m.length) && (m.take s.length == s)
def mayMark (s : List UInt8) : Bool := may1 [239, 187, 191] s || may1 [255, 254] s || may1 [254, 255] s
end Go.Proofs.YtefohnbmifblkaaDoor.Pl
