/-
  The walk of Run.
-/
import Derived.Test.YtefohnbmifblkabDoorApr
import Derived.Test.YtefohnbmifblkabDoorTpH
namespace Go.Proofs.YtefohnbmifblkabDoor
open Go.RowKit

def repl (d : DS) : List Ac → List Rp
  | [] => []
  | a :: l => (doDS d a.1 a.2.data.toList).2 :: repl (act d a) l
theorem repl_snoc : ∀ (l : List Ac) (d : DS) (a : Ac), repl d (l ++ [a]) = repl d l ++ [(doDS (runA d l) a.1 a.2.data.toList).2]
  | [], _, _ => rfl
  | x :: l, d, a => by
    show _ :: repl (act d x) (l ++ [a]) = _
    rw [repl_snoc l (act d x) a]
    rfl
theorem repl_succ (d : DS) (l : List Ac) (k : Nat) (a : Ac) (h : l[k]? = some a) : repl d (l.take (k + 1)) = repl d (l.take k) ++ [(doDS (runA d (l.take k)) a.1 a.2.data.toList).2] := by
  obtain ⟨hk, rfl⟩ := List.getElem?_eq_some_iff.1 h
  rw [← repl_snoc, List.take_append_getElem hk]
theorem repl_len : ∀ (l : List Ac) (d : DS), (repl d l).length = l.length
  | [], _ => rfl
  | a :: l, d => by
    show (repl (act d a) l).length + 1 = _
    rw [repl_len l]
    rfl
theorem repl_take : ∀ (l : List Ac) (d : DS) (k : Nat), repl d (l.take k) = (repl d l).take k
  | [], _, k => by simp [repl]
  | a :: l, d, 0 => rfl
  | a :: l, d, k + 1 => by
    show _ :: repl (act d a) (l.take k) = _ :: (repl (act d a) l).take k
    rw [repl_take l]

/-- the cells of replies, in their order. -/
def repCells : List Rp → List Value → List Value
  | r :: rs, u :: us => [.int .i64 r.code, .int .i64 r.vd.1, .int .i64 r.vd.2.1, .bool r.vd.2.2, u] ++ repCells rs us
  | _, _ => []
theorem repCells_snoc : ∀ (rs : List Rp) (us : List Value) (r : Rp) (u : Value), us.length = rs.length → repCells (rs ++ [r]) (us ++ [u]) = repCells rs us ++ [.int .i64 r.code, .int .i64 r.vd.1, .int .i64 r.vd.2.1, .bool r.vd.2.2, u]
  | [], [], _, _, _ => rfl
  | [], _ :: _, _, _, h => by simp at h
  | _ :: _, [], _, _, h => by simp at h
  | a :: rs, b :: us, r, u, h => by
    show _ ++ repCells (rs ++ [r]) (us ++ [u]) = (_ ++ repCells rs us) ++ _
    rw [repCells_snoc rs us r u (by simpa using h), List.append_assoc]
theorem repCells_at : ∀ (rs : List Rp) (us : List Value) (j : Nat) (r : Rp) (u : Value), rs[j]? = some r → us[j]? = some u → ∀ i, i < 5 → (repCells rs us)[j * 5 + i]? = ([.int .i64 r.code, .int .i64 r.vd.1, .int .i64 r.vd.2.1, .bool r.vd.2.2, u] : List Value)[i]?
  | [], _, _, _, _, h, _, _, _ => by simp at h
  | _ :: _, [], _, _, _, _, h, _, _ => by simp at h
  | a :: rs, b :: us, 0, r, u, h1, h2, i, hi => by
    simp at h1 h2
    subst h1 h2
    show (_ ++ repCells rs us)[0 * 5 + i]? = _
    rw [Nat.zero_mul, Nat.zero_add, List.getElem?_append_left (by simpa using hi)]
  | a :: rs, b :: us, j + 1, r, u, h1, h2, i, hi => by
    have ih := repCells_at rs us j r u (by simpa using h1) (by simpa using h2) i hi
    show (([.int .i64 a.code, .int .i64 a.vd.1, .int .i64 a.vd.2.1, .bool a.vd.2.2, b] : List Value) ++ repCells rs us)[(j + 1) * 5 + i]? = _
    rw [List.getElem?_append_right (by simp; omega), ← ih]
    congr 1
    simp
    omega

/-- replies in memory: a row of the call's own, each reply's numbers in a row too. -/
def Reps (base : Nat) (w : World) (v : Value) (rs : List Rp) : Prop :=
  ∃ us : List Value, us.length = rs.length ∧ w.ownsRow base 34 5 v rs.length (repCells rs us) ∧ ∀ (j : Nat) (r : Rp) (u : Value), rs[j]? = some r → us[j]? = some u → w.ownsRow base 3 1 u r.out.length (ints r.out)
theorem Reps.nil (base : Nat) (w : World) : Reps base w (.slice none 0 0) [] := ⟨[], rfl, World.ownsRow_nil _ _ _ _, fun j r u h => by simp at h⟩
theorem own_stayT {w w' : World} {base n k : Nat} {e : TypeId} {v : Value} {xs : List Value} (h1 : e ≠ 5) (h2 : e ≠ 56) (h : w.ownsRow base e k v n xs) (hs : Stay w w') : w'.ownsRow base e k v n xs := by
  refine ⟨h.1, ?_⟩
  rcases h.2 with h0 | ⟨g, cap, cur, hg, hb, hh, hr⟩
  · exact .inl h0
  · exact .inr ⟨g, cap, cur, hg, hb, hs _ _ _ _ h1 h2 hh, hr⟩
theorem Reps.stay {base : Nat} {w w' : World} {v : Value} {rs : List Rp} (h : Reps base w v rs) (hs : Stay w w') : Reps base w' v rs := by
  obtain ⟨us, h1, h2, h3⟩ := h
  exact ⟨us, h1, own_stayT (by decide) (by decide) h2 hs, fun j r u hj hu => own_stay (h3 j r u hj hu) hs⟩
theorem Reps.form {base : Nat} {w : World} {v : Value} {rs : List Rp} (h : Reps base w v rs) : ∃ p c, v = .slice p rs.length c := by
  obtain ⟨us, h1, h2, h3⟩ := h
  exact own_form h2
/-- what an append onto replies leaves of the rest. -/
theorem AppdR.keep {w w' : World} {base n k : Nat} {v v' : Value} {xs ys : List Value} (h : AppdR w base v n xs v' w') (hv : w.ownsRow base 34 5 v k ys) :
    (∃ B cs, base ≤ B ∧ w.heap[B]? = some (.cells cs 34 (0, 0)) ∧ Keep w w' B none) ∨ Below w.heap.size w w' := by
  rcases hv.2 with ⟨rfl, _⟩ | ⟨g, cap, cur, rfl, hb, hh, _⟩
  · exact .inr ⟨h.grown.os, h.grown.tape, h.grown.output, h.grown.size, fun i hi => h.grown.block i hi (by simp [Value.ownBlock])⟩
  · exact .inl ⟨g, cur, hb, hh, ⟨h.grown.os, h.grown.tape, h.grown.output, h.grown.size, fun i hi h1 _ => h.grown.block i hi (by simpa [Value.ownBlock] using h1)⟩⟩
theorem own_grown {w w' : World} {B base n : Nat} {cs : Array Value} {v : Value} {xs : List Value} (h : w.ownsRow base 3 1 v n xs) (hE : w.heap[B]? = some (.cells cs 34 (0, 0))) (k : Keep w w' B none) : w'.ownsRow base 3 1 v n xs := by
  refine ⟨h.1, ?_⟩
  rcases h.2 with h0 | ⟨g, cap, cur, hg, hb, hh, hr⟩
  · exact .inl h0
  · refine .inr ⟨g, cap, cur, hg, hb, (k.block g (Array.getElem?_eq_some_iff.1 hh).1 ?_ (fun e => by cases e)).trans hh, hr⟩
    rintro rfl
    rw [hE] at hh
    injection hh with hh
    injection hh with _ e _
    exact absurd e (by decide)
theorem Reps.app {w w1 w2 : World} {b : Nat} {d : DS} {v v' : Value} {rs : List Rp} {r : Rp} {u : Value} {us : List Value} (hat : At w b d w1) (hus : us.length = rs.length) (hrow : w1.ownsRow w.heap.size 34 5 v rs.length (repCells rs us))
    (hi : ∀ (j : Nat) (r : Rp) (u : Value), rs[j]? = some r → us[j]? = some u → w1.ownsRow w.heap.size 3 1 u r.out.length (ints r.out)) (hu : w1.ownsRow w.heap.size 3 1 u r.out.length (ints r.out))
    (h : AppdR w1 w.heap.size v (rs.length + 1) (repCells rs us ++ [.int .i64 r.code, .int .i64 r.vd.1, .int .i64 r.vd.2.1, .bool r.vd.2.2, u]) v' w2) : At w b d w2 ∧ Reps w.heap.size w2 v' (rs ++ [r]) := by
  have key : At w b d w2 ∧ ∀ (n : Nat) (u : Value) (xs : List Value), w1.ownsRow w.heap.size 3 1 u n xs → w2.ownsRow w.heap.size 3 1 u n xs := by
    rcases h.keep hrow with ⟨B, cs, hB, hcs, hk⟩ | hb
    · exact ⟨hat.only hcs (by decide) (by decide) hB hk, fun n u xs ho => own_grown ho hcs hk⟩
    · exact ⟨hat.next hb, fun n u xs ho => own_stay ho (Stay.below hb)⟩
  refine ⟨key.1, us ++ [u], by simp [hus], ?_, ?_⟩
  · rw [repCells_snoc rs us r u hus, List.length_append]
    exact h.own
  · intro j r' u' hr' hu'
    by_cases hj : j < rs.length
    · rw [List.getElem?_append_left hj] at hr'
      rw [List.getElem?_append_left (by omega)] at hu'
      exact key.2 _ _ _ (hi j r' u' hr' hu')
    · rw [List.getElem?_append_right (by omega)] at hr'
      rw [List.getElem?_append_right (by omega), hus] at hu'
      obtain ⟨h0, h1⟩ := List.getElem?_eq_some_iff.1 hr'
      have hj2 : j - rs.length = 0 := by simpa using h0
      rw [hj2] at hr' hu'
      simp at hr' hu'
      subst hr' hu'
      exact key.2 _ _ _ hu

set_option maxRecDepth 100000 in
set_option maxHeartbeats 4000000 in
theorem run_long (hint : ByteArray) (v : Value) (l : List Ac) (w : World) (hl : Acts w v l) (h : 300 < l.length) :
    Calls Tryd.prog 14 #[.string hint, v] w fun e w' => e = .returned (.tuple #[.slice none 0 0, .int .i64 5]) ∧ w = w' := by
  obtain ⟨p, c, rfl, hlen, _⟩ := hl
  unfold maxLen at hlen
  have h2 : (300 : Int) < (l.length : Int) := by omega
  go_enter Tryd.func14, Tryd.ntmps14
  go_wp2_with fail
  refine bodyPost_ret (by simp [results, Tryd.results14, go_sem]; rfl) rfl ?_
  exact ⟨rfl, rfl⟩

set_option maxRecDepth 100000 in
set_option maxHeartbeats 4000000 in
theorem run_any (hint : ByteArray) (v : Value) (l : List Ac) (w : World) (hh : hint.size ≤ maxLen) (hl : Acts w v l) (hg : Gl w) (h300 : l.length ≤ 300) :
    Calls Tryd.prog 14 #[.string hint, v] w fun e w' => (∃ v', e = .returned (.tuple #[v', .int .i64 0]) ∧ Reps w.heap.size w' v' (repl (newDS (Pl.find hint.data.toList)) l)) ∧ Below w.heap.size w w' := by
  have HG := Lib.hid hg
  have HH := Lib.hid hh
  obtain ⟨p, c, rfl, hlen, hsz, hcs⟩ := hl
  unfold maxLen at hlen
  clear hg hh
  have h3002 : (l.length : Int) ≤ 300 := by omega
  obtain ⟨d0, hd0⟩ : ∃ x, newDS (Pl.find hint.data.toList) = x := ⟨_, rfl⟩
  have HD0 := Lib.hid hd0
  rw [hd0]
  clear hd0
  go_enter Tryd.func14, Tryd.ntmps14
  go_wp2_with fail
  refine (new_at hint w w (Below.refl _ _) HH.out).mono ?_
  rintro e1 w1 ⟨⟨b, rfl, _, hA1⟩, _⟩
  rw [show newDS (Pl.find hint.data.toList) = d0 from HD0.out] at hA1
  have HA1 := Lib.hid hA1
  clear hA1
  go_wp2_with fail
  go_loopw [7, 17] (fun v i wr => ∃ k : Nat, k ≤ l.length ∧ i = .int .i64 k ∧ Aside (At w b (runA d0 (l.take k)) wr) ∧ Aside (Reps w.heap.size wr v (repl d0 (l.take k)))) (fun _ i _ => l.length - (intOf i).toNat)
  case atStart => exact ⟨0, by omega, rfl, HA1.out, Reps.nil _ _⟩
  case round =>
    obtain ⟨k, hk, rfl, hAt, hRp⟩ := hrel
    by_cases hlt : k < l.length
    · have hlt2 : (k : Int) < (l.length : Int) := by omega
      obtain ⟨x, hx⟩ : ∃ x, l[k]? = some x := ⟨_, List.getElem?_eq_getElem hlt⟩
      have hxs : x.2.size ≤ maxLen := hsz x (List.mem_of_getElem? hx)
      rcases hcs with rfl | ⟨g', off, rfl, hcs⟩
      · simp at hlt
      have hgl := lt_of_cell (hcs k x hx).1
      have hbw := hAt.out.below
      have c1 : wr.cell? ⟨g', off + k * 2, none⟩ = some (.int .i64 x.1) := (hbw.cell (p := ⟨g', _, none⟩) hgl).trans (hcs k x hx).1
      have c2 : wr.cell? ⟨g', off + k * 2 + 1, none⟩ = some (.string x.2) := (hbw.cell (p := ⟨g', _, none⟩) hgl).trans (hcs k x hx).2
      have HX := Lib.hid hx
      have HXS := Lib.hid hxs
      have HCS := Lib.hid hcs
      have HSZ := Lib.hid hsz
      clear hx hxs hcs hsz hbw
      go_wp2_with fail
      have hbx : Below wr.heap.size wr (wr.alloc (.cells #[.int .i64 x.1, .string x.2] 24)) := (Below.refl _ _).alloc (Nat.le_refl _) _
      have hA3 := hAt.out.next hbx
      have hR3 := hRp.out.stay (Stay.below hbx)
      clear hbx
      generalize World.alloc _ _ = w3 at hA3 hR3 ⊢
      have HA3 := Lib.hid hA3
      have HR3 := Lib.hid hR3
      clear hA3 hR3 hAt hRp c1 c2
      refine (do_at w w3 b (runA d0 (l.take k)) x.1 x.2 HA3.out HG.out HXS.out).mono ?_
      rintro e4 w4 ⟨⟨u, rfl, ho4⟩, hA4, hSt4, hz4⟩
      have ho4' := World.ownsRow.mono ho4 HA3.out.below.size
      have hR4 := HR3.out.stay hSt4
      obtain ⟨r, hr⟩ : ∃ r, (doDS (runA d0 (l.take k)) x.1 x.2.data.toList).2 = r := ⟨_, rfl⟩
      rw [hr] at ho4' ⊢
      have HR0 := Lib.hid hr
      obtain ⟨p4, n4, rfl⟩ := own_form ho4'
      obtain ⟨us, hus, hrow, hints⟩ := hR4
      obtain ⟨p5, n5, rfl⟩ := own_form hrow
      have hlen2 : (repl d0 (l.take k)).length = k := by
        rw [repl_len, List.length_take]
        omega
      have hsize := hA4.below.size
      have hbx : Below w4.heap.size w4 (w4.alloc (.cells #[.int .i64 r.code, .int .i64 r.vd.1, .int .i64 r.vd.2.1, .bool r.vd.2.2, .slice p4 r.out.length n4] 34)) := (Below.refl _ _).alloc (Nat.le_refl _) _
      have HA5 := Lib.hid (hA4.next hbx)
      have HRow5 := Lib.hid (own_stayT (by decide) (by decide) hrow (Stay.below hbx))
      have HI5 := Lib.hid (fun (j : Nat) (r' : Rp) (u' : Value) h1 h2 => own_stay (hints j r' u' h1 h2) (Stay.below hbx))
      have HU5 := Lib.hid (own_stay ho4' (Stay.below hbx))
      have HUs := Lib.hid hus
      have hg5 := heap_alloc_new w4 (.cells #[.int .i64 r.code, .int .i64 r.vd.1, .int .i64 r.vd.2.1, .bool r.vd.2.2, .slice p4 r.out.length n4] 34)
      have HG5 := Lib.hid hg5
      have hs5 : (w4.alloc (.cells #[.int .i64 r.code, .int .i64 r.vd.1, .int .i64 r.vd.2.1, .bool r.vd.2.2, .slice p4 r.out.length n4] 34)).heap.size = w4.heap.size + 1 := by simp
      have HL2 := Lib.hid hlen2
      clear ho4 ho4' hA4 hSt4 hz4 hr hrow hints hus hbx hg5 hs5 hlen2
      simp only [rpV]
      go_wp2_with (first
        | (at_builtin
           with_reducible refine gate_append ?_
           refine wpList_appR (by rfl) _ _ (by rfl) w.heap.size _ _ _ w4.heap.size (.int .i64 r.code) (.int .i64 r.vd.1) (.int .i64 r.vd.2.1) (.bool r.vd.2.2) (.slice p4 r.out.length n4) (by rfl) (by rfl) HRow5.out HG5.out (by simp [Value.oneCell']) (by rw [HL2.out]; omega) (by simp; omega) ?_
           intro v6 w6 HA6
           have hap := Reps.app HA5.out HUs.out HRow5.out HI5.out HU5.out HA6
           have HA7 := Lib.hid hap.1
           have HR7 := Lib.hid hap.2
           clear HA6 hap))
      go_roundw
      case rel =>
        refine ⟨k + 1, by omega, by go_num, ?_, ?_⟩
        · have h := HA7.out
          rw [show (doDS (runA d0 (l.take k)) x.1 x.2.data.toList).1 = act (runA d0 (l.take k)) x from rfl, ← runA_succ d0 l k x HX.out] at h
          exact h
        · have h := HR7.out
          rw [← HR0.out, ← repl_succ d0 l k x HX.out] at h
          exact h
      case measure => simp [intOf]; omega
    · have hk2 : k = l.length := by omega
      subst hk2
      have hRp2 := hRp.out
      have hAt2 := hAt.out
      rw [List.take_length] at hRp2
      have HR := Lib.hid hRp2
      have HB := Lib.hid hAt2.below
      clear hRp hAt hRp2 hAt2
      go_wp2_with fail
      refine bodyPost_ret (by simp [results, Tryd.results14, go_sem]; rfl) rfl ?_
      exact ⟨⟨_, rfl, HR.out⟩, HB.out⟩
end Go.Proofs.YtefohnbmifblkabDoor
