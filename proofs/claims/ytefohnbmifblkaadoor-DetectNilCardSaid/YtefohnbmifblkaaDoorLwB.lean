/-
  The walk of the law DetectNil: it returns true for every action; nothing that was there is changed.
-/
import Derived.Test.YtefohnbmifblkaaDoorSame
namespace Go.Proofs.YtefohnbmifblkaaDoor
open Go.RowKit

set_option maxRecDepth 100000 in
set_option maxHeartbeats 1000000 in
theorem doNil_any (k : Int) (s : ByteArray) (w : World) :
    Calls Tryd.prog 24 #[.pointer none, .agg #[.int .i64 k, .string s]] w fun e w' => e = .returned (.agg #[.int .i64 1, .int .i64 0, .int .i64 0, .bool false, .slice none 0 0]) ∧ Below w.heap.size w w' := by
  go_enter Tryd.func24, Tryd.ntmps24
  go_wp2
  refine bodyPost_ret (v := .agg #[.int .i64 1, .int .i64 0, .int .i64 0, .bool false, .slice none 0 0]) (by simp [results, Tryd.results24, go_sem]) rfl ⟨rfl, ?_⟩
  repeat (first | exact Below.refl _ _ | refine Below.alloc ?_ (by simp) _ | refine Below.setCell ?_ (by simp) _)

set_option maxHeartbeats 1000000 in
theorem bytesNil_any (w : World) :
    Calls Tryd.prog 25 #[.pointer none] w fun e w' => e = .returned (.string ⟨#[]⟩) ∧ w = w' := by
  go_enter Tryd.func25, Tryd.ntmps25
  go_wp2
  go_ret
  exact ⟨rfl, rfl⟩

set_option maxHeartbeats 1000000 in
theorem detectNil_walk (k : Int) (s : ByteArray) (w : World) :
    Calls Tryd.prog 6 #[.agg #[.int .i64 k, .string s]] w fun e w' => e = .returned (.bool true) ∧ Below w.heap.size w w' := by
  go_enter Tryd.func6, Tryd.ntmps6
  go_wp2_with (first
    | (go_at_call 24; refine (doNil_any _ _ _).mono ?_; rintro e w1 ⟨rfl, hb1⟩)
    | (go_at_call 23; refine (refSameReply_any _ 1 0 0 false _ _ [] (by decide) (Ints.nil _) (Ints.nil _)).mono ?_; rintro e w2 ⟨rfl, hb2⟩)
    | (go_at_call 25; refine (bytesNil_any _).mono ?_; rintro e w3 ⟨rfl, hw3⟩; subst hw3))
  go_ret
  refine ⟨rfl, Below.trans ((Below.refl w.heap.size w).alloc (Nat.le_refl _) (.cells #[.int .i64 k, .string s] 30)) ?_⟩
  have h1 := bthen hb1 hb2
  exact h1.mono (by simp)
end Go.Proofs.YtefohnbmifblkaaDoor
