/-
  What looks at the acts: the function that looks at nothing.
-/
import Derived.Test.YtefohnbmifblkabDoorTpG
namespace Go.Proofs.YtefohnbmifblkabDoor
open Go.RowKit

set_option maxHeartbeats 1000000 in
theorem quiet_any (b : Value) (k : Int) (bs : ByteArray) (c x y : Int) (f : Bool) (u : Value) (W : World) :
    Calls Tryd.prog 9 #[b, .agg #[.int .i64 k, .string bs], .agg #[.int .i64 c, .int .i64 x, .int .i64 y, .bool f, u]] W fun e w' => e = .returned (.bool true) ∧ Below W.heap.size W w' := by
  go_enter Tryd.func9, Tryd.ntmps9
  go_wp2
  go_ret
  exact ⟨rfl, two_new _ _ _⟩
theorem quiet_looks (w : World) (d0 : DS) (l : List Ac) : Looks w d0 l 9 #[] (fun _ _ => True) := by
  intro k a W b u base _ _ _ hat _
  refine (quiet_any _ _ _ _ _ _ _ _ _).mono ?_
  rintro e w' ⟨rfl, hb⟩
  exact ⟨rfl, trivial, hat.next hb⟩
theorem enters_quiet : ∀ args W, (callFunc 9 args).run Tryd.prog W = .ok (.enter 9 args) W := enters_of Tryd.func9 (by kernel_rfl) rfl

/-- play with nobody looking. -/
theorem play_quiet (w w1 : World) (hint : ByteArray) (v : Value) (l : List Ac) (hb : Below w.heap.size w w1) (hg : Gl w) (hh : hint.size ≤ maxLen) (hl : Acts w v l) :
    Calls Tryd.prog 8 #[.string hint, v, .func (.func 9) #[] #[]] w1 fun e w' =>
      ∃ b, e = .returned (.tuple #[.pointer (some ⟨b, 0, none⟩), .bool true]) ∧ At w b (runA (newDS (Pl.find hint.data.toList)) (l.take 100)) w' := by
  refine (play_any w w1 hint v l 9 #[] (fun _ _ => True) enters_quiet hb hg hh hl (fun _ _ _ _ _ => trivial) (quiet_looks w _ l) trivial).mono ?_
  rintro e w' ⟨b, he, hat, _⟩
  exact ⟨b, he, hat⟩

/-- a block of another type is turned: the detector stays. -/
theorem At.only {w W w' : World} {b B : Nat} {d : DS} {cs : Array Value} {ty : TypeId} {fr : Nat × Nat} (h : At w b d W) (hB : W.heap[B]? = some (.cells cs ty fr)) (h1 : ty ≠ 5) (h2 : ty ≠ 56) (hlow : w.heap.size ≤ B) (k : Keep W w' B none) : At w b d w' := by
  obtain ⟨⟨o, hd⟩, ho, hb⟩ := h
  refine ⟨⟨o, hd.kept k ?_ (fun e => by cases e) ?_ (fun n e => by cases e)⟩, ho, hb.trans (k.below hlow (fun n e => by cases e) hb.size)⟩
  · rintro rfl
    obtain ⟨v, hv, _⟩ := hd.mem
    rw [hv] at hB
    injection hB with hB
    injection hB with _ e _
    exact h2 e.symm
  · rintro rfl
    obtain ⟨v, hv, hown, hvo⟩ := hd.mem
    rcases hown.2 with ⟨rfl, _⟩ | ⟨g, cap, cur, rfl, _, hh, _⟩
    · simp [Value.ownBlock] at hvo
    · have : g = B := by simpa [Value.ownBlock] using hvo
      subst this
      rw [hB] at hh
      injection hh with hh
      injection hh with _ e _
      exact h1 e
end Go.Proofs.YtefohnbmifblkabDoor
