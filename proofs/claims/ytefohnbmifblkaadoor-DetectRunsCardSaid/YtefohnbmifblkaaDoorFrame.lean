/-
  The frame that all laws share: from a walk that returns true and changes nothing that was there to the row's own words; what the listed variables give; the witness' world.
-/
import Derived.Test.YtefohnbmifblkaaDoorRows
import Derived.Test.YtefohnbmifblkaaDoorSnA
import Derived.WalkKit
import Derived.ProofKit
import Derived.OpenShut
import Derived.Carry
import Derived.ChangeOld
import Derived.Deep.DeepHandedRow
import Derived.Lib.LaidTab
import Derived.LaidMore
import Derived.Lay
import Derived.MakeChecks
import Derived.Stop.LaidErr
import Derived.Test.YtefohnbmifblkaaDoorDoG
import Derived.Deep.SlicePairs
import Derived.WideShapes
import Derived.SizedLaws
namespace Go.Proofs.YtefohnbmifblkaaDoor
open Go.ChangeShapes Go.WideShapes Go.ChangeAt Go.RowKit

/-- two texts within the form's reach. -/
theorem two_fit {a b : Nat} (h : a ≤ 140737488351232) (k : b ≤ 140737488351232) : a + b ≤ maxLen := Nat.le_trans (Nat.add_le_add h k) (by decide)

theorem own : ownKnob Tryd.prog.godebug = none := by kernel_rfl
theorem laidOut : laidOutB Tryd.prog = true := by kernel_rfl

/-- each type's row is there, and it can be read. -/
def rowed (P : Program) (ts : List TypeId) : Bool := ts.all fun t => P.readableRec t && decide (t < P.types.size)

section
variable {H : Type} {enc : TypeId × Value → H}
theorem all_stay {P : Program} (hl : laidOutB P = true) {W W' : World} (hb : Below W.heap.size W W') : ∀ {ts : List TypeId} {vs : List Value} {ds : List (DataW H)} {ps : List MemPlace},
    rowed P ts = true → DataW.TrodAll enc P W 0 (fun _ => true) true ts vs ds ps → (∀ p ∈ ps, p.block < W.heap.size) → DataW.TrodAll enc P W' 0 (fun b => decide (b < W.heap.size)) true ts vs ds ps
  | [], vs, ds, ps, _, h, _ => by
    obtain ⟨rfl, rfl, rfl⟩ := trodAll_nil h
    exact rfl
  | t :: ts, vs, ds, ps, hr, h, hp => by
    obtain ⟨v, vs', d, ds', p, q, rfl, rfl, rfl, h1, h2⟩ := trodAll_cons h
    simp only [rowed, List.all_cons, Bool.and_eq_true] at hr
    exact ⟨p, q, Below.trod hl hr.1.1 (of_decide_eq_true hr.1.2) h1 hb fun x hx => hp x (List.mem_append.2 (.inl hx)), all_stay hl hb hr.2 h2 fun x hx => hp x (List.mem_append.2 (.inr hx)), rfl⟩
end

section
variable {H : Type} {enc : TypeId × Value → H}
/-- What a law's walk gives is what its row says. -/
theorem post_law {P : Program} {f : Func} {s : ChangeSpec} {W W' : World} {args : Array Value} {ds gs : List (DataW H)} {before : List MemPlace} {tb : TypeId}
    (hl : laidOutB P = true) (hr : rowed P f.params.toList = true) (hv : s.vars = []) (hrt : f.resultTypes.toList = [tb]) (hb4 : P.underlying tb = some .bool)
    (hfn : (s.fn H (ds ++ gs)).results = [.lit (.bool true)] ∧ (s.fn H (ds ++ gs)).args = ds ∧ (s.fn H (ds ++ gs)).vars = [])
    (hW : DataW.Whole enc P f.params.toList s.vars false W args.toList ds gs before) (hb : Below W.heap.size W W') : s.post enc P f false true false false W args (.bool true) W' := by
  have hlt : ∀ p ∈ before, p.block < W.heap.size := fun p hp => hW.lt p hp
  have hW2 := hW
  obtain ⟨p, q, hA, hV, rfl, _, _⟩ := hW2
  rw [hv] at hV
  obtain ⟨rfl, rfl⟩ := trodVars_none hV
  obtain ⟨h1, h2, h3⟩ := hfn
  refine ⟨ds, [], p ++ [], [], p, [], hW, ?_, ?_, ?_, ?_, fun h => by cases h⟩
  · have hsz : f.resultTypes.size = 1 := by rw [← Array.length_toList, hrt]; rfl
    rw [h1, hrt, hsz]
    exact trodAll_cons_mk (shut_bool hb4 _) trodAll_mk0
  · rw [h2]
    exact all_stay hl hb hr hA fun x hx => hlt x (List.mem_append.2 (.inl hx))
  · rw [h3, hv]
    exact rfl
  · exact World.keptBut_mono (fun x hx => ⟨hx, by
      rcases List.mem_append.1 hx with h | h
      · exact .inr (.inl h)
      · cases h⟩) (hb.frame (· ∈ p ++ []))
end

/-- An array of strings that stands first on a row's list. -/
theorem strs_of_head {P : Program} {W : World} {name : String} {zs : List (List UInt8)} {rest : List (String × DataW Unit)} {g : Nat} {t e : TypeId} {n : Nat}
    (hg : P.globalNamed name = some g) (hty : (P.globals[g]?).map (·.type) = some t) (ht : P.underlying t = some (.array n e)) (he : P.underlying e = some .string) (hce : P.cellsOf e = 1) (hn : zs.length = n)
    (h : laidMet P ((name, .agg (zs.map fun z => .lit (.string z))) :: rest) W) (i : Nat) (hi : i < zs.length) : W.cell? ⟨g, i, none⟩ = some (.string ⟨zs[i].toArray⟩) := by
  obtain ⟨ps, ⟨g', t', cs, fuel, p, q, hg', ht', hvar, hd, _, _⟩, _⟩ := h
  obtain rfl := Option.some.inj (hg.symm.trans hg')
  obtain rfl := Option.some.inj (hty.symm.trans ht')
  obtain ⟨xs, m, _, ex, _, hl, hel⟩ := DataW.trod_array ht hd
  have hE := hel i (by omega)
  rw [hce, Nat.mul_one, List.getElem?_eq_getElem (by omega)] at hE
  obtain ⟨s, e1, e2, _⟩ := DataW.trod_string he hE
  have e3 : xs.map (·.1) = zs.map fun z => (DataW.lit (.string z) : DataW Unit) := (DataW.agg.inj (Prod.mk.inj ex).1).symm
  have e4 : (xs.map (·.1))[i]? = (zs.map fun z => (DataW.lit (.string z) : DataW Unit))[i]? := by rw [e3]
  rw [List.getElem?_map, List.getElem?_map, List.getElem?_eq_getElem (by omega : i < xs.length), List.getElem?_eq_getElem hi, e2] at e4
  simp only [Option.map_some, Option.some.injEq, DataW.lit.injEq, Lit.string.injEq] at e4
  rw [World.var?_cell hg hvar i]
  have h0 : ((cs.toList.drop i).take 1)[0]? = some (.string s) := by rw [e1]; rfl
  have h1 : cs.toList[i]? = some (.string s) := by simpa [List.getElem?_take, List.getElem?_drop] using h0
  rw [← e4]
  simpa using h1

/-- What all rows list. -/
def laidAllRows : List (String × DataW Unit) := Rows.sniffWindowRow.laid
theorem gM : Tryd.prog.globalNamed "plumbline/sniff.marks" = some 0 := by kernel_rfl
theorem gMType : (Tryd.prog.globals[0]?).map (·.type) = some 67 := by kernel_rfl
theorem gD : Tryd.prog.globalNamed "plumbline/sniff.marked" = some 1 := by kernel_rfl
theorem gDType : (Tryd.prog.globals[1]?).map (·.type) = some 68 := by kernel_rfl
theorem cellsStr : Tryd.prog.cellsOf 9 = 1 := by kernel_rfl
theorem cellsInt : Tryd.prog.cellsOf 3 = 1 := by kernel_rfl
theorem cellsInts : Tryd.prog.cellsOf 68 = 4 := by kernel_rfl
theorem noHandles : (laidAllRows.all fun x => x.2.handleName?.isNone) = true := by kernel_rfl

/-- THE LISTED VARIABLES GIVE THE TWO TABLES OF MARKS. -/
theorem gl_of_laid {W : World} (h0 : laidMetH Tryd.prog laidAllRows W) : Gl W := by
  rw [MakeChecks.laidMetH_plain _ _ _ noHandles] at h0
  have h1 := laidMet.tail h0
  have h2 := laidMet.tail h1
  have hm := strs_of_head (zs := [[], [239, 187, 191], [255, 254], [254, 255]]) gM gMType Tryd.underlying67 Tryd.underlying9 cellsStr rfl h1
  have hd := Lib.tabIs_of_head (zs := [0, 1, 5, 6]) gD gDType Tryd.underlying68 Tryd.underlying3 cellsInt cellsInts h2
  exact ⟨hm 0 (by decide), hm 1 (by decide), hm 2 (by decide), hm 3 (by decide), hd.cell gD 0 (by decide), hd.cell gD 1 (by decide), hd.cell gD 2 (by decide), hd.cell gD 3 (by decide)⟩

/-- THE WITNESS' WORLD MEETS THE LIST. -/
theorem laid_met (os : Os) (args : Array Value) : laidMet Tryd.prog laidAllRows ((World.laidAll Tryd.prog os laidAllRows).forCall (fun _ _ => 0) ⟨#[], args, []⟩).memory :=
  laidMet_laidAll args (by kernel_rfl) (by kernel_rfl)
theorem laid_metH (os : Os) (args : Array Value) : laidMetH Tryd.prog laidAllRows ((World.laidAll Tryd.prog os laidAllRows).forCall (fun _ _ => 0) ⟨#[], args, []⟩).memory := by
  rw [MakeChecks.laidMetH_plain _ _ _ noHandles]
  exact laid_met os args
end Go.Proofs.YtefohnbmifblkaaDoor

/-
  A list of acts that comes in as an argument, opened.
-/
namespace Go.Proofs.YtefohnbmifblkaaDoor
open Go.ChangeShapes Go.WideShapes Go.ChangeAt Go.RowKit

def kOf (v : Value) : Int := match v with
  | .int _ n => n
  | _ => 0
def sOf (v : Value) : ByteArray := match v with
  | .string s => s
  | _ => ⟨#[]⟩
theorem cellsOfAct : Tryd.prog.cellsOf 30 = 2 := by kernel_rfl
theorem cellsOfInt : Tryd.prog.cellsOf 3 = 1 := by kernel_rfl
theorem cellsOfStr : Tryd.prog.cellsOf 9 = 1 := by kernel_rfl

set_option maxRecDepth 100000 in
theorem open_acts {H : Type} {enc : TypeId × Value → H} {W : World} {r : Reach} {base : Nat} {v : Value} {d : DataW H} {ps : List MemPlace} {sp : Nat → Bool} {b0 : Nat}
    (hval : Value.okWide Tryd.prog W r base 44 v) (hd : DataW.Trod enc Tryd.prog W b0 sp true 44 v d ps) : ∃ l : List Ac, Acts W v l := by
  obtain ⟨a, len, cap, rfl⟩ := okWide_slice Tryd.underlying44 hval
  obtain ⟨fuel, h⟩ := hd
  rcases Go.Deep.open_slice_pairs Tryd.underlying44 Tryd.underlying30 cellsOfAct rfl rfl cellsOfInt cellsOfStr h with ⟨h1, _⟩ | ⟨a', len', cap', m, n, V0, V1, D0, D1, P0, P1, h1, _, hl, hm, hmm, _, hx⟩
  · injection h1 with h1 _
    rw [h1]
    exact ⟨[], none, 0, rfl, Nat.zero_le _, fun _ h => (List.not_mem_nil h).elim, .inl rfl⟩
  · injection h1 with h1 _
    rw [h1]
    have hlm : len' ≤ m := by rw [hmm]; split <;> omega
    have each : ∀ i, i < len' → W.cell? (a'.add (i * 2)) = some (.int .i64 (kOf (V0 i))) ∧ W.cell? (a'.add (i * 2 + 1)) = some (.string (sOf (V1 i))) ∧ (sOf (V1 i)).size ≤ maxLen := by
      intro i hi
      obtain ⟨c0, c1, t0, t1⟩ := hx i (by omega)
      obtain ⟨k, e0, _, _⟩ := DataW.trod_int Tryd.underlying3 t0
      obtain ⟨s, e1, _, hs⟩ := DataW.trod_string Tryd.underlying9 t1
      injection e0 with e0 _
      injection e1 with e1 _
      rw [e0] at c0
      rw [e1] at c1
      rw [e0, e1]
      exact ⟨c0, c1, hs⟩
    refine ⟨(List.range len').map fun i => (kOf (V0 i), sOf (V1 i)), some a', cap', by simp, by simp; omega, ?_, ?_⟩
    · intro x hx
      obtain ⟨i, hi, rfl⟩ := List.mem_map.1 hx
      exact (each i (List.mem_range.1 hi)).2.2
    · rcases Nat.eq_zero_or_pos len' with rfl | hpos
      · exact .inl rfl
      · right
        obtain ⟨g, off, spot⟩ := a'
        have hspot : spot = none := by simpa [Addr.add] using World.cell?_spot (each 0 hpos).1
        subst hspot
        refine ⟨g, off, rfl, fun j x hj => ?_⟩
        rw [List.getElem?_map, Option.map_eq_some_iff] at hj
        obtain ⟨i, hi, rfl⟩ := hj
        obtain ⟨hi1, hi2⟩ := List.getElem?_eq_some_iff.1 hi
        rw [List.getElem_range] at hi2
        subst hi2
        have hj2 : j < len' := by simpa using hi1
        obtain ⟨c0, c1, _⟩ := each j hj2
        have ea : ∀ k, (⟨g, off, none⟩ : Addr).add k = ⟨g, off + k, none⟩ := fun k => by unfold Addr.add; split <;> simp_all
        rw [ea] at c0 c1
        exact ⟨c0, by rw [Nat.add_assoc]; exact c1⟩
end Go.Proofs.YtefohnbmifblkaaDoor

/-
  A list of acts that comes in as an argument: how many there may be, and how long their texts.
-/
namespace Go.Proofs.YtefohnbmifblkaaDoor
open Go.ChangeShapes Go.WideShapes Go.ChangeAt Go.RowKit

theorem bytesOfAct : Tryd.prog.bytesOf 30 = 24 := by kernel_rfl
theorem mem_weightsAll {H : Type} {P : Program} {e : TypeId} {n : Nat} {d : DataW H} (hn : n ∈ d.weights P e) : ∀ {ds : List (DataW H)}, d ∈ ds → n ∈ DataW.weightsAll P e ds
  | x :: ds, h => by
    simp only [DataW.weightsAll, List.mem_append]
    rcases List.mem_cons.1 h with rfl | h
    · exact .inl hn
    · exact .inr (mem_weightsAll hn h)

set_option maxRecDepth 100000 in
theorem open_acts_small {H : Type} {enc : TypeId × Value → H} {W : World} {r : Reach} {base : Nat} {v : Value} {d : DataW H} {ps : List MemPlace} {sp : Nat → Bool} {b0 : Nat}
    (hval : Value.okWide Tryd.prog W r base 44 v) (hd : DataW.Trod enc Tryd.prog W b0 sp true 44 v d ps)
    (hw : ∀ n ∈ d.weights Tryd.prog 44, n ≤ 140737488351232) : ∃ l : List Ac, Acts W v l ∧ (∀ x ∈ l, x.2.size ≤ 140737488351232) ∧ l.length ≤ 5864062014805 := by
  obtain ⟨a, len, cap, rfl⟩ := okWide_slice Tryd.underlying44 hval
  obtain ⟨fuel, h⟩ := hd
  rcases Go.Deep.open_slice_pairs Tryd.underlying44 Tryd.underlying30 cellsOfAct rfl rfl cellsOfInt cellsOfStr h with ⟨h1, _⟩ | ⟨a', len', cap', m, n, V0, V1, D0, D1, P0, P1, h1, _, hl, hm, hmm, hdd, hx⟩
  · injection h1 with h1 _
    rw [h1]
    exact ⟨[], ⟨none, 0, rfl, Nat.zero_le _, fun _ h => (List.not_mem_nil h).elim, .inl rfl⟩, fun _ h => (List.not_mem_nil h).elim, Nat.zero_le _⟩
  · injection h1 with h1 _
    injection hdd with hdd _
    rw [h1]
    have hlm : len' ≤ m := by rw [hmm]; split <;> omega
    have hlen : len' ≤ 5864062014805 := by
      have := hw ((len' + (m - len')) * 24) (by rw [hdd, ← bytesOfAct]; simp [DataW.weights, Tryd.underlying44])
      omega
    have each : ∀ i, i < len' → W.cell? (a'.add (i * 2)) = some (.int .i64 (kOf (V0 i))) ∧ W.cell? (a'.add (i * 2 + 1)) = some (.string (sOf (V1 i))) ∧ (sOf (V1 i)).size ≤ 140737488351232 := by
      intro i hi
      obtain ⟨c0, c1, t0, t1⟩ := hx i (by omega)
      obtain ⟨k, e0, _, _⟩ := DataW.trod_int Tryd.underlying3 t0
      obtain ⟨s, e1, e2, hs⟩ := DataW.trod_string Tryd.underlying9 t1
      injection e0 with e0 _
      injection e1 with e1 _
      injection e2 with e2 _
      have hsz : s.size ≤ 140737488351232 := by
        refine hw s.size ?_
        rw [hdd]
        simp only [DataW.weights, Tryd.underlying44]
        refine List.mem_cons_of_mem _ (List.mem_append_left _ (mem_weightsAll (d := .agg [D0 i, D1 i]) ?_ (List.mem_map.2 ⟨i, List.mem_range.2 hi, rfl⟩)))
        simp only [DataW.weights, Tryd.underlying30]
        rw [e2]
        simp [DataW.weightsEach, DataW.weights]
      rw [e0] at c0
      rw [e1] at c1
      rw [e0, e1]
      exact ⟨c0, c1, hsz⟩
    refine ⟨(List.range len').map fun i => (kOf (V0 i), sOf (V1 i)), ⟨some a', cap', by simp, by simp; omega, ?_, ?_⟩, ?_, by simpa using hlen⟩
    · intro x hx
      obtain ⟨i, hi, rfl⟩ := List.mem_map.1 hx
      have := (each i (List.mem_range.1 hi)).2.2
      unfold maxLen
      show (sOf (V1 i)).size ≤ _
      omega
    · rcases Nat.eq_zero_or_pos len' with rfl | hpos
      · exact .inl rfl
      · right
        obtain ⟨g, off, spot⟩ := a'
        have hspot : spot = none := by simpa [Addr.add] using World.cell?_spot (each 0 hpos).1
        subst hspot
        refine ⟨g, off, rfl, fun j x hj => ?_⟩
        rw [List.getElem?_map, Option.map_eq_some_iff] at hj
        obtain ⟨i, hi, rfl⟩ := hj
        obtain ⟨hi1, hi2⟩ := List.getElem?_eq_some_iff.1 hi
        rw [List.getElem_range] at hi2
        subst hi2
        have hj2 : j < len' := by simpa using hi1
        obtain ⟨c0, c1, _⟩ := each j hj2
        have ea : ∀ k, (⟨g, off, none⟩ : Addr).add k = ⟨g, off + k, none⟩ := fun k => by unfold Addr.add; split <;> simp_all
        rw [ea] at c0 c1
        exact ⟨c0, by rw [Nat.add_assoc]; exact c1⟩
    · intro x hx
      obtain ⟨i, hi, rfl⟩ := List.mem_map.1 hx
      exact (each i (List.mem_range.1 hi)).2.2
end Go.Proofs.YtefohnbmifblkaaDoor
