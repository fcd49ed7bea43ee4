/-
  The walk of decode.Step in latin.
-/
import Derived.Test.YtefohnbmifblkaaDoorDcV
import Derived.Test.YtefohnbmifblkaaDoorDcV3
import Derived.Test.YtefohnbmifblkaaDoorDcV5
import Derived.Test.YtefohnbmifblkaaDoorDcV6
import Derived.Deep.RegionHeld3
import Derived.Deep.DrawnRows
namespace Go.Proofs.YtefohnbmifblkaaDoor
open Go.RowKit
open Pl (St st0 byte dOk)

set_option maxRecDepth 100000 in
set_option maxHeartbeats 4000000 in
theorem step_4 (s : St) (c : UInt8) (w : World) (hok : dOk 4 s) :
    Calls Tryd.prog 91 #[.int .i64 4, stV s, .int .i64 (c.toNat : Int)] w fun e w' => AnsS w (Pl.dStep 4 s c).1 (Pl.dStep 4 s c).2 e w' := by
  have HD := Lib.hid hok
  clear hok
  obtain ⟨b, hb⟩ : ∃ b : Nat, c.toNat = b := ⟨_, rfl⟩
  have hb2 : (b : Int) ≤ 255 := by have := c.toNat_lt; omega
  have HB := Lib.hid hb
  rw [hb]
  clear hb
  unfold stV
  go_enter Tryd.func91, Tryd.ntmps91
  go_wp2_with fail
  refine (good_any 4 s _ HD.out).mono ?_
  rintro e1 w1 ⟨rfl, hb1⟩
  have T1 : Two w (stCells s) (stCells st0) 92 w1 := Two.of (hb1.mono (by simp))
  have HT := Lib.hid T1
  clear hb1 T1
  go_wp2_with fail
  go_loopw [9, 34] (fun v i wr => ∃ (j : Nat) (st : St) (l : List Int), i = .int .i64 j ∧ j ≤ 3 ∧ Hid (dOk 4 st) ∧ Hid (Pl.dTake 4 c (3 - j) st l = Pl.dStep 4 s c) ∧ Hid (l.length ≤ 2 * j) ∧ Hid (Mid w (stCells st) (stCells st0) l v wr)) (fun _ i _ => 3 - (intOf i).toNat)
  case atStart => exact ⟨0, s, [], rfl, by omega, HD, Lib.hid rfl, Lib.hid (by simp), Lib.hid ⟨HT.out, World.ownsRow_nil _ _ _ _⟩⟩
  case round =>
    obtain ⟨j, st, l, rfl, hj, HK, HR, HL, HM⟩ := hrel
    obtain ⟨fx, fy, fz, fw⟩ := HM.out.two.cells
    simp only [stCells] at fx
    have hs := HM.out.two.size
    by_cases hlt : j < 3
    · have hlat := latin_any c
      rw [HB.out] at hlat
      have HC := Lib.hid hlat
      clear hlat
      have HOl : Hid ((1 : Nat) ≤ 2) := Lib.hid (by omega)
      go_wp2_with fail
      refine (HC.out _).mono ?_
      rintro e2 w2 ⟨rfl, hd2⟩
      have hb2' : Below wr.heap.size wr w2 := hd2.below
      have HB2 := Lib.hid hb2'
      have hs2 := hb2'.size
      clear hd2 hb2' fx fy fz fw
      go_wp2_with (first
        | (at_builtin
           with_reducible refine gate_append ?_
           refine wpList_app (by rfl) _ _ (by rfl) (w.heap.size + 2) wr.heap.size _ _ l.length 1 (ints l) [.int .i64 (Pl.dLatin c)] (by rfl) (by rfl) ?g1 (own_lone (by omega) (heap_at (by rfl))) (lone_one _) ?g3 ?g4 ?g5
           case g1 => exact (own_below HM.out.own HB2.out (Nat.le_refl _)).alloc _
           case g3 => (have := HL.out; omega)
           case g4 => (simp; try omega)
           intro v3 w3 HA3
           have hM3 := Mid.grow (l2 := [Pl.dLatin c]) HM.out (HB2.out.alloc (by omega) _) HA3
           have HM3 := Lib.hid hM3
           obtain ⟨fx3, fy3, fz3, fw3⟩ := hM3.two.cells
           simp only [stCells] at fx3 fy3
           have hs3 := hM3.two.size
           clear HA3 hM3))
      refine bodyPost_ret (by simp [results, Tryd.results91, go_sem, fy3]; rfl) rfl ?_
      have hR := take_no hlt HR.out (show Pl.dOne 4 st c = (st, [Pl.dLatin c], false) from rfl)
      have hM3 := HM3.out
      have hA := ansS_of (s0 := (Pl.dStep 4 s c).1) (l0 := (Pl.dStep 4 s c).2) (by rw [hR]) (by rw [hR]) hM3
      exact hA
    · have hj3 : j = 3 := by omega
      subst hj3
      simp only [stCells] at fy
      go_wp2_with fail
      refine bodyPost_ret (by simp [results, Tryd.results91, go_sem, fy]; rfl) rfl ?_
      have hR := HR.out
      have hR : (st, l) = Pl.dStep 4 s c := hR
      have hM := HM.out
      have hA := ansS_of (s0 := (Pl.dStep 4 s c).1) (l0 := (Pl.dStep 4 s c).2) (by rw [← hR]) (by rw [← hR]) hM
      exact hA

theorem step_any (e : Int) (s : St) (c : UInt8) (w : World) (hok : dOk e s) :
    Calls Tryd.prog 91 #[.int .i64 e, stV s, .int .i64 (c.toNat : Int)] w fun x w' => AnsS w (Pl.dStep e s c).1 (Pl.dStep e s c).2 x w' := by
  have he : e = 1 ∨ e = 2 ∨ e = 3 ∨ e = 4 ∨ e = 5 ∨ e = 6 := by unfold dOk at hok; omega
  rcases he with rfl | rfl | rfl | rfl | rfl | rfl
  · exact step_1 s c w hok
  · exact step_2 s c w hok
  · exact step_3 s c w hok
  · exact step_4 s c w hok
  · exact step_5 s c w hok
  · exact step_6 s c w hok
end Go.Proofs.YtefohnbmifblkaaDoor

/-
  The walk of decode.Feed.
-/
namespace Go.Proofs.YtefohnbmifblkaaDoor
open Go.RowKit
open Pl (St st0 byte dOk)
attribute [local go_sem ↓] Go.wp_at_zero Go.wp_at_succ

/-- what stands behind a Step in Feed's loop: the new state in a row of its own, what it tells in another. -/
structure Fed (w : World) (st s' : St) (l o : List Int) (v v2 : Value) (g : Nat) (W : World) : Prop where
  mid : Mid w (stCells st) (stCells st0) l v W
  row : W.heap[g]? = some (.cells (stCells s') 92 (0, 0))
  hg : w.heap.size + 2 ≤ g
  out : W.ownsRow (w.heap.size + 2) 3 1 v2 o.length (ints o)
  apart : v.ownBlock ≠ some g

theorem Mid.below {w wr W : World} {st z : Array Value} {l : List Int} {v : Value} (h : Mid w st z l v wr) (hb : Below wr.heap.size wr W) : Mid w st z l v W := by
  have hs := h.two.size
  refine ⟨⟨bthen h.two.below hb, (hb.block _ (by omega)).trans h.two.hx, (hb.block _ (by omega)).trans h.two.hy, Nat.le_trans hs hb.size⟩, own_below h.own hb (Nat.le_refl _)⟩
theorem Mid.set {w wr : World} {st : St} {z : Array Value} {l : List Int} {v : Value} (s' : St) (h : Mid w (stCells st) z l v wr) :
    Mid w (stCells s') z l v (((((((wr.setCell ⟨w.heap.size, 0, none⟩ (.int .i64 s'.need)).setCell ⟨w.heap.size, 1, none⟩ (.int .i64 s'.code)).setCell ⟨w.heap.size, 2, none⟩ (.int .i64 s'.fr)).setCell ⟨w.heap.size, 3, none⟩ (.int .i64 s'.to)).setCell ⟨w.heap.size, 4, none⟩ (.string ⟨s'.kept.toArray⟩)).setCell ⟨w.heap.size, 5, none⟩ (.int .i64 s'.half)).setCell ⟨w.heap.size, 6, none⟩ (.int .i64 s'.mode)) := by
  have hs := h.two.size
  refine ⟨⟨?_, set7 h.two.hx, ?_, ?_⟩, ?_⟩
  · repeat (refine Below.setCell ?_ (by simp) _)
    exact h.two.below
  · repeat rw [Go.Deep.blk_setCell_other _ _ _ _ (by simp)]
    exact h.two.hy
  · simp [World.setCell]
    omega
  · repeat (refine own_set ?_ _ (by simp) _)
    exact h.own
theorem fed_last {w wr w2 : World} {st s' : St} {l o : List Int} {v v2 : Value} (h : Mid w (stCells st) (stCells st0) l v wr) (hb : Below wr.heap.size wr w2) (ho : w2.ownsRow wr.heap.size 3 1 v2 o.length (ints o)) :
    Fed w st s' l o v v2 w2.heap.size (w2.alloc (.cells (stCells s') 92)) := by
  have hs := h.two.size
  have hz := hb.size
  refine ⟨h.below (hb.alloc hz _), heap_alloc_new w2 _, by omega, (ho.mono (by omega)).alloc _, ?_⟩
  intro e
  have := (h.own.lt _ e).2
  omega
theorem fed_first {w wr w2 : World} {c0 : Array Value} {st s' : St} {l o : List Int} {v v2 : Value} (h : Mid w (stCells st) (stCells st0) l v wr) (hc : ∃ a0 a1 a2 a3 a4 a5 a6, c0 = #[a0, a1, a2, a3, a4, a5, a6]) (hb : Below (wr.alloc (.cells c0 92)).heap.size (wr.alloc (.cells c0 92)) w2) (ho : w2.ownsRow (wr.alloc (.cells c0 92)).heap.size 3 1 v2 o.length (ints o)) :
    Fed w st s' l o v v2 wr.heap.size (((((((w2.setCell ⟨wr.heap.size, 0, none⟩ (.int .i64 s'.need)).setCell ⟨wr.heap.size, 1, none⟩ (.int .i64 s'.code)).setCell ⟨wr.heap.size, 2, none⟩ (.int .i64 s'.fr)).setCell ⟨wr.heap.size, 3, none⟩ (.int .i64 s'.to)).setCell ⟨wr.heap.size, 4, none⟩ (.string ⟨s'.kept.toArray⟩)).setCell ⟨wr.heap.size, 5, none⟩ (.int .i64 s'.half)).setCell ⟨wr.heap.size, 6, none⟩ (.int .i64 s'.mode)) := by
  have hs := h.two.size
  have hz := hb.size
  simp only [World.size_alloc] at hz ho
  obtain ⟨a0, a1, a2, a3, a4, a5, a6, rfl⟩ := hc
  have hb2 : Below wr.heap.size wr w2 := (Below.alloc (Below.refl _ _) (Nat.le_refl _) _).trans (hb.mono (by simp))
  refine ⟨h.below ?_, set7 ((hb.block _ (by simp)).trans (heap_alloc_new wr _)), by omega, ?_, ?_⟩
  · repeat (refine Below.setCell ?_ (by simp) _)
    exact hb2
  · refine World.ownsRow.mono (base := wr.heap.size + 1) ?_ (by omega)
    repeat (refine own_set ?_ _ (by simp) _)
    exact ho
  · intro e
    have := (h.own.lt _ e).2
    omega
theorem keep_alloc {w : World} {o : Obj} {b k : Nat} {v : Value} (h : w.cell? ⟨b, k, none⟩ = some v) : (w.alloc o).cell? ⟨b, k, none⟩ = some v := by
  have hb := lt_of_cell h
  rw [← h]
  exact World.cell?_of_block (Go.Deep.blk_alloc_lt w o b hb)
theorem keep_drew {w : World} {a : Addr} {v : Value} (h : w.cell? a = some v) : w.drew.cell? a = some v := h
theorem keep_set {w : World} {a : Addr} {u : Value} {b k : Nat} {v : Value} (h : w.cell? ⟨b, k, none⟩ = some v) (hne : b ≠ a.block) : (w.setCell a u).cell? ⟨b, k, none⟩ = some v := by
  rw [← h]
  exact World.cell?_of_block (Go.Deep.blk_setCell_other w a u b hne)
theorem alloc_cells {W w2 : World} {b : Nat} {cs : Array Value} {t : TypeId} (h : W.heap[b]? = some (.cells cs t (0, 0))) (hb : Below W.heap.size W w2) : (∀ k, w2.cell? ⟨b, k, none⟩ = cs[k]?) ∧ (∀ k, w2.frozen? ⟨b, k, none⟩ = false) := by
  have h2 : w2.heap[b]? = some (.cells cs t (0, 0)) := (hb.block _ (Array.getElem?_eq_some_iff.1 h).1).trans h
  exact ⟨fun k => cell_of_row w2 _ k _ _ _ h2, fun _ => by unfold World.frozen?; simp [h2]⟩
theorem app_cells {W w3 : World} {base n k : Nat} {v v' : Value} {xs ys : List Value} {b : Nat} {cs : Array Value} {t : TypeId} (ha : Appd W base v n xs v' w3) (hv : W.ownsRow base 3 1 v k ys) (hb : b < base) (h : W.heap[b]? = some (.cells cs t (0, 0))) (hs : base ≤ W.heap.size) : (∀ k, w3.cell? ⟨b, k, none⟩ = cs[k]?) ∧ (∀ k, w3.frozen? ⟨b, k, none⟩ = false) := by
  have h2 : w3.heap[b]? = some (.cells cs t (0, 0)) := ((ha.below hv hs).block _ hb).trans h
  exact ⟨fun k => cell_of_row w3 _ k _ _ _ h2, fun _ => by unfold World.frozen?; simp [h2]⟩
theorem Appd.undrew {w w' : World} {base : Nat} {v v' : Value} {n : Nat} {xs : List Value} (h : Appd w.drew base v n xs v' w') : Appd w base v n xs v' w' :=
  ⟨h.own, ⟨h.grown.os, h.grown.tape, h.grown.output, h.grown.size, h.grown.block⟩, h.at_⟩
/-- the rest of a string from k on. -/
theorem feed_step {e : Int} {st : St} {l : List Int} {bs : List UInt8} {k : Nat} {R : St × List Int} (hk : k < bs.length) (h : ((Pl.dFeed e st (bs.drop k)).1, l ++ (Pl.dFeed e st (bs.drop k)).2) = R) :
    ((Pl.dFeed e (Pl.dStep e st bs[k]).1 (bs.drop (k + 1))).1, (l ++ (Pl.dStep e st bs[k]).2) ++ (Pl.dFeed e (Pl.dStep e st bs[k]).1 (bs.drop (k + 1))).2) = R := by
  rw [List.drop_eq_getElem_cons hk] at h
  rw [← h]
  simp [Pl.dFeed, List.append_assoc]

set_option maxRecDepth 100000 in
set_option maxHeartbeats 8000000 in
theorem feed_any (e : Int) (s : St) (bs : ByteArray) (w : World) (hok : dOk e s) (hlen : bs.size ≤ 4000) :
    Calls Tryd.prog 70 #[.int .i64 e, stV s, .string bs] w fun x w' => AnsS w (Pl.dFeed e s bs.data.toList).1 (Pl.dFeed e s bs.data.toList).2 x w' := by
  have he : 1 ≤ e ∧ e ≤ 6 := by unfold dOk at hok; omega
  have HD := Lib.hid hok
  clear hok
  obtain ⟨he0, he1⟩ := he
  unfold stV
  go_enter Tryd.func70, Tryd.ntmps70
  go_wp2_with fail
  refine (end_any e s _ HD.out).mono ?_
  rintro e1 w1 ⟨⟨v1, rfl, hv1⟩, hb1⟩
  clear hv1
  have T1 : Two w (stCells s) (stCells st0) 92 w1 := Two.of (hb1.mono (by simp))
  have HT := Lib.hid T1
  clear hb1 T1
  go_wp2_with fail
  go_loopw [11, 41] (fun v i wr => ∃ (k : Nat) (st : St) (l : List Int), i = .int .i64 k ∧ k ≤ bs.size ∧ Hid (dOk e st) ∧ Hid (((Pl.dFeed e st (bs.data.toList.drop k)).1, l ++ (Pl.dFeed e st (bs.data.toList.drop k)).2) = Pl.dFeed e s bs.data.toList) ∧ Hid (l.length ≤ 6 * k) ∧ Hid (Mid w (stCells st) (stCells st0) l v wr)) (fun _ i _ => bs.size - (intOf i).toNat)
  case atStart => exact ⟨0, s, [], rfl, by omega, HD, Lib.hid rfl, Lib.hid (by simp), Lib.hid ⟨HT.out, World.ownsRow_nil _ _ _ _⟩⟩
  case round =>
    obtain ⟨k, st, l, rfl, hk, HK, HR, HL, HM⟩ := hrel
    obtain ⟨fx, fy, fz, fw⟩ := HM.out.two.cells
    simp only [stCells] at fx
    have hs := HM.out.two.size
    by_cases hlt : k < bs.size
    · have c0 := fx 0
      have c1 := fx 1
      have c2 := fx 2
      have c3 := fx 3
      have c4 := fx 4
      have c5 := fx 5
      have c6 := fx 6
      simp only [List.getElem?_toArray, List.getElem?_cons_zero, List.getElem?_cons_succ] at c0 c1 c2 c3 c4 c5 c6
      have hi0 : (0 : Int) ≤ (k : Int) := by omega
      have hi1 : (k : Int) < (bs.size : Int) := by omega
      obtain ⟨c, hc⟩ : ∃ c, bs.data.toList[k]'(by simpa using hlt) = c := ⟨_, rfl⟩
      obtain ⟨b, hb⟩ : ∃ b : Nat, c.toNat = b := ⟨_, rfl⟩
      have hix : ∀ h : k < bs.size, (bs[k]'h).toNat = b := fun h => by rw [← hb, ← hc]; rfl
      have hb2 : (b : Int) ≤ 255 := by have := c.toNat_lt; omega
      have hwb : IntKind.i64.wrap (b : Int) = (b : Int) := by rw [IntKind.wrap_i64]; omega
      have HB := Lib.hid hb
      have HCh := Lib.hid hc
      have HS : Hid (∀ W, Calls Tryd.prog 91 #[.int .i64 e, stV st, .int .i64 (b : Int)] W fun x w' => AnsS W (Pl.dStep e st c).1 (Pl.dStep e st c).2 x w') := Lib.hid fun W => by
        have h := step_any e st c W HK.out
        rwa [HB.out] at h
      clear hb hc fx fy fz fw
      obtain ⟨s', o, ho⟩ : ∃ s' o, Pl.dStep e st c = (s', o) := ⟨_, _, rfl⟩
      rw [ho] at HS
      have HO := Lib.hid ho
      have HOl : Hid (o.length ≤ 6) := Lib.hid (by have := Pl.dStep_len e st c; rwa [ho] at this)
      clear ho
      go_wp2_with fail
      go_region_held3 (fun w' => w'.cell? ⟨w.heap.size, 0, none⟩ = some (.int .i64 st.need) ∧ w'.cell? ⟨w.heap.size, 1, none⟩ = some (.int .i64 st.code) ∧ w'.cell? ⟨w.heap.size, 2, none⟩ = some (.int .i64 st.fr) ∧ w'.cell? ⟨w.heap.size, 3, none⟩ = some (.int .i64 st.to) ∧ w'.cell? ⟨w.heap.size, 4, none⟩ = some (.string ⟨st.kept.toArray⟩) ∧ w'.cell? ⟨w.heap.size, 5, none⟩ = some (.int .i64 st.half) ∧ w'.cell? ⟨w.heap.size, 6, none⟩ = some (.int .i64 st.mode)) (first
          | (go_split_ands; refine ⟨?_, ?_, ?_, ?_, ?_, ?_, ?_⟩ <;> (repeat (first | (with_reducible assumption) | (with_reducible refine keep_set ?_ (by simp; omega)) | (with_reducible refine keep_alloc ?_) | (with_reducible refine keep_drew ?_) | (with_reducible refine (hbel.cell (by simp; omega)).trans ?_) | assumption))))
        (first
          | (go_at_call 91
             refine (HS.out _).mono ?_
             rintro e2 w2 ⟨⟨v2, rfl, ho2⟩, hbel⟩
             (try (have hz2 : (∀ k, w2.cell? ⟨wr.heap.size, k, none⟩ = (#[.int .i64 0, .int .i64 0, .int .i64 0, .int .i64 0, .string ⟨#[]⟩, .int .i64 0, .int .i64 0] : Array Value)[k]?) ∧ (∀ k, w2.frozen? ⟨wr.heap.size, k, none⟩ = false) := alloc_cells (by exact heap_alloc_new wr _) hbel; obtain ⟨fx2, fz2⟩ := hz2))
             simp only [stV]))
      · have F : Fed w st s' l o u11 v2 w2.heap.size (w2.alloc (.cells #[.int .i64 s'.need, .int .i64 s'.code, .int .i64 s'.fr, .int .i64 s'.to, .string ⟨s'.kept.toArray⟩, .int .i64 s'.half, .int .i64 s'.mode] 92)) := fed_last HM.out (show Below wr.heap.size wr w2 from ⟨hbel.os, hbel.tape, hbel.output, hbel.size, hbel.block⟩) ho2
        rename_i hHeld
        clear hHeld c0 c1 c2 c3 c4 c5 c6 hbel ho2
        generalize w2.alloc _ = W at F ⊢
        generalize w2.heap.size = g at F ⊢
        have HF := Lib.hid F
        obtain ⟨fx, fy, fz, fw⟩ := F.mid.two.cells
        simp only [stCells] at fx
        have hsW := F.mid.two.size
        have hg0 := F.hg
        have hgW : g < W.heap.size := (Array.getElem?_eq_some_iff.1 F.row).1
        have hd : ∀ k, W.cell? ⟨g, k, none⟩ = (stCells s')[k]? := fun k => cell_of_row W g k _ _ _ F.row
        have c0 := hd 0
        have c1 := hd 1
        have c2 := hd 2
        have c3 := hd 3
        have c4 := hd 4
        have c5 := hd 5
        have c6 := hd 6
        simp only [stCells, List.getElem?_toArray, List.getElem?_cons_zero, List.getElem?_cons_succ] at c0 c1 c2 c3 c4 c5 c6
        clear F hd HM HS
        go_wp2_with fail
        go_region_held3 (fun w' => w'.cell? ⟨g, 0, none⟩ = some (.int .i64 s'.need) ∧ w'.cell? ⟨g, 1, none⟩ = some (.int .i64 s'.code) ∧ w'.cell? ⟨g, 2, none⟩ = some (.int .i64 s'.fr) ∧ w'.cell? ⟨g, 3, none⟩ = some (.int .i64 s'.to) ∧ w'.cell? ⟨g, 4, none⟩ = some (.string ⟨s'.kept.toArray⟩) ∧ w'.cell? ⟨g, 5, none⟩ = some (.int .i64 s'.half) ∧ w'.cell? ⟨g, 6, none⟩ = some (.int .i64 s'.mode)) (first
            | (go_split_ands; refine ⟨?_, ?_, ?_, ?_, ?_, ?_, ?_⟩ <;> (repeat (first | (with_reducible assumption) | (with_reducible refine keep_set ?_ (by simp; omega)) | (with_reducible refine keep_drew ?_) | (with_reducible refine (HA3.grown.cell_far _ (by first | exact hgW | (simp; omega)) (Ne.symm HF.out.apart)).trans ?_) | assumption))))
          ((refine step_app (by rfl) _ _ (by rfl) (w.heap.size + 2) (w.heap.size + 2) u11 v2 l.length o.length (ints l) (ints o) (by rfl) (by rfl) (by (repeat (with_reducible refine own_set ?_ _ (by simp) _)); exact HF.out.mid.own) (by (repeat (with_reducible refine own_set ?_ _ (by simp) _)); exact HF.out.out) (ints_one _) (by have h1 := HL.out; have h2 := HOl.out; omega) (by first | exact hsW | (simp [World.setCell]; omega)) ?_
            intro v3 w3 HA3
            (try (have hq := app_cells HA3 HF.out.mid.own (by omega) HF.out.mid.two.hx hsW; obtain ⟨fx3, fz3⟩ := hq; simp only [stCells] at fx3))))
        rename_i hHeld
        have hM3 := Mid.set s' (Mid.grow (l2 := o) HF.out.mid (Below.refl _ _) (Appd.undrew HA3))
        have HM3 := Lib.hid hM3
        clear hHeld HA3 fx3 fz3 hM3 c0 c1 c2 c3 c4 c5 c6 fx fy fz fw
        generalize World.setCell (World.setCell _ _ _) _ _ = W3 at HM3 ⊢
        go_wp2_with fail
        refine ⟨⟨k + 1, s', l ++ o, ?_, by omega, ?_, ?_, ?_, HM3⟩, by simp [intOf]; omega⟩
        · go_num
        · have h := Pl.dStep_ok e st c HK.out
          rw [HO.out] at h
          exact Lib.hid h
        · have hkl : k < bs.data.toList.length := by simpa using hlt
          have h := feed_step hkl HR.out
          rw [show bs.data.toList[k] = c from HCh.out, HO.out] at h
          exact Lib.hid h
        · have h1 := HL.out
          have h2 := HOl.out
          exact Lib.hid (by rw [List.length_append]; omega)
      · have F : Fed w st s' l o u11 v2 wr.heap.size (((((((w2.setCell ⟨wr.heap.size, 0, none⟩ (.int .i64 s'.need)).setCell ⟨wr.heap.size, 1, none⟩ (.int .i64 s'.code)).setCell ⟨wr.heap.size, 2, none⟩ (.int .i64 s'.fr)).setCell ⟨wr.heap.size, 3, none⟩ (.int .i64 s'.to)).setCell ⟨wr.heap.size, 4, none⟩ (.string ⟨s'.kept.toArray⟩)).setCell ⟨wr.heap.size, 5, none⟩ (.int .i64 s'.half)).setCell ⟨wr.heap.size, 6, none⟩ (.int .i64 s'.mode)) := fed_first (c0 := #[.int .i64 0, .int .i64 0, .int .i64 0, .int .i64 0, .string ⟨#[]⟩, .int .i64 0, .int .i64 0]) HM.out ⟨_, _, _, _, _, _, _, rfl⟩ ⟨hbel.os, hbel.tape, hbel.output, hbel.size, hbel.block⟩ ho2
        rename_i hHeld
        clear hHeld c0 c1 c2 c3 c4 c5 c6 hbel ho2 fx2 fz2
        generalize World.setCell (World.setCell _ _ _) _ _ = W at F ⊢
        generalize wr.heap.size = g at F ⊢
        have HF := Lib.hid F
        obtain ⟨fx, fy, fz, fw⟩ := F.mid.two.cells
        simp only [stCells] at fx
        have hsW := F.mid.two.size
        have hg0 := F.hg
        have hgW : g < W.heap.size := (Array.getElem?_eq_some_iff.1 F.row).1
        have hd : ∀ k, W.cell? ⟨g, k, none⟩ = (stCells s')[k]? := fun k => cell_of_row W g k _ _ _ F.row
        have c0 := hd 0
        have c1 := hd 1
        have c2 := hd 2
        have c3 := hd 3
        have c4 := hd 4
        have c5 := hd 5
        have c6 := hd 6
        simp only [stCells, List.getElem?_toArray, List.getElem?_cons_zero, List.getElem?_cons_succ] at c0 c1 c2 c3 c4 c5 c6
        clear F hd HM HS
        go_wp2_with fail
        go_region_held3 (fun w' => w'.cell? ⟨g, 0, none⟩ = some (.int .i64 s'.need) ∧ w'.cell? ⟨g, 1, none⟩ = some (.int .i64 s'.code) ∧ w'.cell? ⟨g, 2, none⟩ = some (.int .i64 s'.fr) ∧ w'.cell? ⟨g, 3, none⟩ = some (.int .i64 s'.to) ∧ w'.cell? ⟨g, 4, none⟩ = some (.string ⟨s'.kept.toArray⟩) ∧ w'.cell? ⟨g, 5, none⟩ = some (.int .i64 s'.half) ∧ w'.cell? ⟨g, 6, none⟩ = some (.int .i64 s'.mode)) (first
            | (go_split_ands; refine ⟨?_, ?_, ?_, ?_, ?_, ?_, ?_⟩ <;> (repeat (first | (with_reducible assumption) | (with_reducible refine keep_set ?_ (by simp; omega)) | (with_reducible refine keep_drew ?_) | (with_reducible refine (HA3.grown.cell_far _ (by first | exact hgW | (simp; omega)) (Ne.symm HF.out.apart)).trans ?_) | assumption))))
          ((refine step_app (by rfl) _ _ (by rfl) (w.heap.size + 2) (w.heap.size + 2) u11 v2 l.length o.length (ints l) (ints o) (by rfl) (by rfl) (by (repeat (with_reducible refine own_set ?_ _ (by simp) _)); exact HF.out.mid.own) (by (repeat (with_reducible refine own_set ?_ _ (by simp) _)); exact HF.out.out) (ints_one _) (by have h1 := HL.out; have h2 := HOl.out; omega) (by first | exact hsW | (simp [World.setCell]; omega)) ?_
            intro v3 w3 HA3
            (try (have hq := app_cells HA3 HF.out.mid.own (by omega) HF.out.mid.two.hx hsW; obtain ⟨fx3, fz3⟩ := hq; simp only [stCells] at fx3))))
        rename_i hHeld
        have hM3 := Mid.set s' (Mid.grow (l2 := o) HF.out.mid (Below.refl _ _) (Appd.undrew HA3))
        have HM3 := Lib.hid hM3
        clear hHeld HA3 fx3 fz3 hM3 c0 c1 c2 c3 c4 c5 c6 fx fy fz fw
        generalize World.setCell (World.setCell _ _ _) _ _ = W3 at HM3 ⊢
        go_wp2_with fail
        refine ⟨⟨k + 1, s', l ++ o, ?_, by omega, ?_, ?_, ?_, HM3⟩, by simp [intOf]; omega⟩
        · go_num
        · have h := Pl.dStep_ok e st c HK.out
          rw [HO.out] at h
          exact Lib.hid h
        · have hkl : k < bs.data.toList.length := by simpa using hlt
          have h := feed_step hkl HR.out
          rw [show bs.data.toList[k] = c from HCh.out, HO.out] at h
          exact Lib.hid h
        · have h1 := HL.out
          have h2 := HOl.out
          exact Lib.hid (by rw [List.length_append]; omega)
      · have F : Fed w st s' l o u11 v2 wr.heap.size (((((((w2.setCell ⟨wr.heap.size, 0, none⟩ (.int .i64 s'.need)).setCell ⟨wr.heap.size, 1, none⟩ (.int .i64 s'.code)).setCell ⟨wr.heap.size, 2, none⟩ (.int .i64 s'.fr)).setCell ⟨wr.heap.size, 3, none⟩ (.int .i64 s'.to)).setCell ⟨wr.heap.size, 4, none⟩ (.string ⟨s'.kept.toArray⟩)).setCell ⟨wr.heap.size, 5, none⟩ (.int .i64 s'.half)).setCell ⟨wr.heap.size, 6, none⟩ (.int .i64 s'.mode)) := fed_first (c0 := #[.int .i64 0, .int .i64 0, .int .i64 0, .int .i64 0, .string ⟨#[]⟩, .int .i64 0, .int .i64 0]) HM.out ⟨_, _, _, _, _, _, _, rfl⟩ ⟨hbel.os, hbel.tape, hbel.output, hbel.size, hbel.block⟩ ho2
        rename_i hHeld
        clear hHeld c0 c1 c2 c3 c4 c5 c6 hbel ho2 fx2 fz2
        generalize World.setCell (World.setCell _ _ _) _ _ = W at F ⊢
        generalize wr.heap.size = g at F ⊢
        have HF := Lib.hid F
        obtain ⟨fx, fy, fz, fw⟩ := F.mid.two.cells
        simp only [stCells] at fx
        have hsW := F.mid.two.size
        have hg0 := F.hg
        have hgW : g < W.heap.size := (Array.getElem?_eq_some_iff.1 F.row).1
        have hd : ∀ k, W.cell? ⟨g, k, none⟩ = (stCells s')[k]? := fun k => cell_of_row W g k _ _ _ F.row
        have c0 := hd 0
        have c1 := hd 1
        have c2 := hd 2
        have c3 := hd 3
        have c4 := hd 4
        have c5 := hd 5
        have c6 := hd 6
        simp only [stCells, List.getElem?_toArray, List.getElem?_cons_zero, List.getElem?_cons_succ] at c0 c1 c2 c3 c4 c5 c6
        clear F hd HM HS
        go_wp2_with fail
        go_region_held3 (fun w' => w'.cell? ⟨g, 0, none⟩ = some (.int .i64 s'.need) ∧ w'.cell? ⟨g, 1, none⟩ = some (.int .i64 s'.code) ∧ w'.cell? ⟨g, 2, none⟩ = some (.int .i64 s'.fr) ∧ w'.cell? ⟨g, 3, none⟩ = some (.int .i64 s'.to) ∧ w'.cell? ⟨g, 4, none⟩ = some (.string ⟨s'.kept.toArray⟩) ∧ w'.cell? ⟨g, 5, none⟩ = some (.int .i64 s'.half) ∧ w'.cell? ⟨g, 6, none⟩ = some (.int .i64 s'.mode)) (first
            | (go_split_ands; refine ⟨?_, ?_, ?_, ?_, ?_, ?_, ?_⟩ <;> (repeat (first | (with_reducible assumption) | (with_reducible refine keep_set ?_ (by simp; omega)) | (with_reducible refine keep_drew ?_) | (with_reducible refine (HA3.grown.cell_far _ (by first | exact hgW | (simp; omega)) (Ne.symm HF.out.apart)).trans ?_) | assumption))))
          ((refine step_app (by rfl) _ _ (by rfl) (w.heap.size + 2) (w.heap.size + 2) u11 v2 l.length o.length (ints l) (ints o) (by rfl) (by rfl) (by (repeat (with_reducible refine own_set ?_ _ (by simp) _)); exact HF.out.mid.own) (by (repeat (with_reducible refine own_set ?_ _ (by simp) _)); exact HF.out.out) (ints_one _) (by have h1 := HL.out; have h2 := HOl.out; omega) (by first | exact hsW | (simp [World.setCell]; omega)) ?_
            intro v3 w3 HA3
            (try (have hq := app_cells HA3 HF.out.mid.own (by omega) HF.out.mid.two.hx hsW; obtain ⟨fx3, fz3⟩ := hq; simp only [stCells] at fx3))))
        rename_i hHeld
        have hM3 := Mid.set s' (Mid.grow (l2 := o) HF.out.mid (Below.refl _ _) (Appd.undrew HA3))
        have HM3 := Lib.hid hM3
        clear hHeld HA3 fx3 fz3 hM3 c0 c1 c2 c3 c4 c5 c6 fx fy fz fw
        generalize World.setCell (World.setCell _ _ _) _ _ = W3 at HM3 ⊢
        go_wp2_with fail
        refine ⟨⟨k + 1, s', l ++ o, ?_, by omega, ?_, ?_, ?_, HM3⟩, by simp [intOf]; omega⟩
        · go_num
        · have h := Pl.dStep_ok e st c HK.out
          rw [HO.out] at h
          exact Lib.hid h
        · have hkl : k < bs.data.toList.length := by simpa using hlt
          have h := feed_step hkl HR.out
          rw [show bs.data.toList[k] = c from HCh.out, HO.out] at h
          exact Lib.hid h
        · have h1 := HL.out
          have h2 := HOl.out
          exact Lib.hid (by rw [List.length_append]; omega)
    · have hk2 : k = bs.size := by omega
      subst hk2
      simp only [stCells] at fy
      go_wp2_with fail
      refine bodyPost_ret (by simp [results, Tryd.results70, go_sem, fy]; rfl) rfl ?_
      have hR : (st, l) = Pl.dFeed e s bs.data.toList := by
        have h := HR.out
        rw [List.drop_eq_nil_of_le (by simp)] at h
        simpa [Pl.dFeed] using h
      have hM := HM.out
      have hA := ansS_of (s0 := (Pl.dFeed e s bs.data.toList).1) (l0 := (Pl.dFeed e s bs.data.toList).2) (by rw [← hR]) (by rw [← hR]) hM
      exact hA
end Go.Proofs.YtefohnbmifblkaaDoor

/-
  The walk of decode.Whole.
-/
namespace Go.Proofs.YtefohnbmifblkaaDoor
open Go.RowKit
open Pl (St st0 byte dOk)

set_option maxRecDepth 100000 in
set_option maxHeartbeats 4000000 in
theorem whole_any (e : Int) (bs : ByteArray) (w : World) (he : 1 ≤ e ∧ e ≤ 6) (hlen : bs.size ≤ 4000) :
    Calls Tryd.prog 55 #[.int .i64 e, .string bs] w fun x w' => AnsE w (Pl.dWhole e bs.data.toList) x w' := by
  have hok := Pl.dOk_zero e he
  have hok2 := Pl.dFeed_ok e bs.data.toList st0 hok
  have hl := Pl.dFeed_len e bs.data.toList st0
  obtain ⟨s', o, hf⟩ : ∃ s' o, Pl.dFeed e st0 bs.data.toList = (s', o) := ⟨_, _, rfl⟩
  have HF : Hid (∀ W, Calls Tryd.prog 70 #[.int .i64 e, stV st0, .string bs] W fun x w' => AnsS W s' o x w') := Lib.hid fun W => by
    have h := feed_any e st0 bs W hok hlen
    rwa [hf] at h
  have hW : Pl.dWhole e bs.data.toList = o ++ Pl.dEnd s' := by unfold Pl.dWhole; rw [hf]
  rw [hf] at hok2 hl
  have HE : Hid (∀ W, Calls Tryd.prog 71 #[.int .i64 e, stV s'] W fun x w' => AnsE W (Pl.dEnd s') x w') := Lib.hid fun W => end_any e s' W hok2
  have hel := Pl.dEnd_len s'
  rw [hW]
  have hs0 : bs.data.toList.length = bs.size := by simp
  have HL : Hid (o.length + (Pl.dEnd s').length ≤ 1000000) := Lib.hid (by dsimp only at hl; omega)
  clear hok hok2 hl hf hW hel hs0
  go_enter Tryd.func55, Tryd.ntmps55
  go_wp2_with fail
  refine (HF.out _).mono ?_
  rintro e1 w1 ⟨⟨v1, rfl, ho1⟩, hb1⟩
  have HO1 := Lib.hid ho1
  have hz1 := hb1.size
  have HB1 := Lib.hid hb1
  clear ho1 hb1
  simp only [stV]
  go_wp2_with fail
  refine (HE.out _).mono ?_
  rintro e2 w2 ⟨⟨v2, rfl, ho2⟩, hb2⟩
  have hB : Below w.heap.size w w2 := HB1.out.trans ((Below.alloc (Below.refl _ _) (Nat.le_refl _) _ : Below w1.heap.size w1 (w1.alloc _)).trans (hb2.mono (by simp)) |>.mono hz1)
  have HO3 : Hid (w2.ownsRow w.heap.size 3 1 v1 o.length (ints o)) := Lib.hid (own_below (HO1.out.alloc _) hb2 (Nat.le_refl _))
  have hz2 := hB.size
  have HB2 := Lib.hid hB
  have HO2 := Lib.hid ho2
  clear hb2 ho2 hB
  go_wp2_with (at_builtin; (with_reducible refine gate_append ?_); refine wpList_app (by rfl) _ _ (by rfl) w.heap.size _ _ _ o.length (Pl.dEnd s').length (ints o) (ints (Pl.dEnd s')) (by rfl) (by rfl) HO3.out HO2.out (ints_one _) HL.out hz2 ?_; intro v3 w3 HA3)
  refine bodyPost_ret (by simp [results, Tryd.results55, go_sem]; rfl) rfl ?_
  have hA := HA3.own
  rw [ints_app, ← List.length_append] at hA
  have hB := HB2.out.trans (HA3.below HO3.out hz2)
  exact ⟨⟨_, rfl, hA⟩, hB⟩
end Go.Proofs.YtefohnbmifblkaaDoor
