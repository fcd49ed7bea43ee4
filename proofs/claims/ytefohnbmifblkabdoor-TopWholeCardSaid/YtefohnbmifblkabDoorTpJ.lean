/-
  The walk of TopWhole.
-/
import Derived.Test.YtefohnbmifblkabDoorTpH
import Derived.Test.YtefohnbmifblkabDoorTpR
import Derived.Test.YtefohnbmifblkabDoorJdB
import Derived.Deep.RegionWith
namespace Go.Proofs.YtefohnbmifblkabDoor
open Go.RowKit

theorem own_only {w' W : World} {base E n : Nat} {v : Value} {xs : List Value} {cs : Array Value} {ty : TypeId} {fr : Nat × Nat} (h : W.ownsRow base 3 1 v n xs) (hE : W.heap[E]? = some (.cells cs ty fr)) (h1 : ty ≠ 3) (k : Keep W w' E none) : w'.ownsRow base 3 1 v n xs := by
  refine ⟨h.1, ?_⟩
  rcases h.2 with h0 | ⟨g, cap, cur, hg, hb, hh, hr⟩
  · exact .inl h0
  · refine .inr ⟨g, cap, cur, hg, hb, (k.block g (Array.getElem?_eq_some_iff.1 hh).1 ?_ (fun e => by cases e)).trans hh, hr⟩
    rintro rfl
    rw [hE] at hh
    injection hh with hh
    injection hh with _ e _
    exact h1 e

set_option maxRecDepth 100000 in
set_option maxHeartbeats 2000000 in
/-- the reply is not looked at. -/
theorem whole_skip (b : Value) (E H : Nat) (k : Int) (bs : ByteArray) (c x y : Int) (f : Bool) (u : Value) (W : World) (h : ¬ k = 3 ∨ ¬ c = 0) :
    Calls Tryd.prog 17 #[b, .agg #[.int .i64 k, .string bs], .agg #[.int .i64 c, .int .i64 x, .int .i64 y, .bool f, u], .pointer (some ⟨E, 0, none⟩), .pointer (some ⟨H, 0, none⟩)] W fun e w' => e = .returned (.bool true) ∧ Below W.heap.size W w' := by
  by_cases hk : k = 3
  · subst hk
    have hc : ¬ c = 0 := by rcases h with h | h; exact absurd rfl h; exact h
    have hcb : (c != 0) = true := by rw [bne_iff_ne]; exact hc
    clear h
    go_enter Tryd.func17, Tryd.ntmps17
    go_wp2
    go_ret
    exact ⟨rfl, two_new _ _ _⟩
  · have hkb : (k != 3) = true := by rw [bne_iff_ne]; exact hk
    clear h
    go_enter Tryd.func17, Tryd.ntmps17
    go_wp2
    go_ret
    exact ⟨rfl, two_new _ _ _⟩

set_option maxRecDepth 100000 in
set_option maxHeartbeats 4000000 in
theorem whole_look (w : World) (b E H : Nat) (d : DS) (bs hint : ByteArray) (x y : Int) (u : Value) (xs : List Int) (W : World) (v0 : Bool) (bu : Nat) (hat : At w b d W) (hu : W.ownsRow bu 3 1 u xs.length (ints xs)) (hl : xs.length ≤ maxLen) (hh : hint.size ≤ maxLen) (hz : d.bs.length ≤ 4000) (hg : Gl w)
    (hE : W.heap[E]? = some (.cells #[.bool v0] 4 (0, 0))) (hH : W.heap[H]? = some (.cells #[.string hint] 9 (0, 0))) (hlow : w.heap.size ≤ E) (hj : jd (Pl.find hint.data.toList) d.bs = (x, y)) (ht : tell x d.bs = xs) (hx : 1 ≤ x ∧ x ≤ 6) :
    Calls Tryd.prog 17 #[.pointer (some ⟨b, 0, none⟩), .agg #[.int .i64 3, .string bs], .agg #[.int .i64 0, .int .i64 x, .int .i64 y, .bool true, u], .pointer (some ⟨E, 0, none⟩), .pointer (some ⟨H, 0, none⟩)] W fun e w' => e = .returned (.bool true) ∧ Keep W w' E none ∧ w'.heap[E]? = some (.cells #[.bool true] 4 (0, 0)) := by
  obtain ⟨p, c, rfl⟩ := own_form hu
  have HAT := Lib.hid hat
  have HU := Lib.hid hu
  have HG := Lib.hid hg
  have HH := Lib.hid hh
  have HZ := Lib.hid hz
  have HBE := Lib.hid hE
  have HBH := Lib.hid hH
  have HJ := Lib.hid hj
  have HT := Lib.hid ht
  have HL := Lib.hid hl
  have e0 : W.cell? ⟨E, 0, none⟩ = some (.bool v0) := cell_of_row W E 0 _ _ _ hE
  have hf0 : ∀ j, W.frozen? ⟨E, j, none⟩ = false := fun _ => by unfold World.frozen?; simp [hE]
  have hEl : E < W.heap.size := lt_of_cell e0
  clear hat hu hg hh hz hE hH hj ht hl
  go_enter Tryd.func17, Tryd.ntmps17
  go_wp2_with fail
  have hk3 : Keep W (((W.setCell ⟨E, 0, none⟩ (.bool true)).alloc (.cells #[.int .i64 3, .string bs] 24)).alloc (.cells #[.int .i64 0, .int .i64 x, .int .i64 y, .bool true, .slice p xs.length c] 34)) E none := (((Keep.refl W E none).set (.inl rfl) _).alloc _).alloc _
  have hr3 : (((W.setCell ⟨E, 0, none⟩ (.bool true)).alloc (.cells #[.int .i64 3, .string bs] 24)).alloc (.cells #[.int .i64 0, .int .i64 x, .int .i64 y, .bool true, .slice p xs.length c] 34)).heap[W.heap.size + 1]? = some (.cells #[.int .i64 0, .int .i64 x, .int .i64 y, .bool true, .slice p xs.length c] 34 (0, 0)) := by
    have h := heap_alloc_new ((W.setCell ⟨E, 0, none⟩ (.bool true)).alloc (.cells #[.int .i64 3, .string bs] 24)) (.cells #[.int .i64 0, .int .i64 x, .int .i64 y, .bool true, .slice p xs.length c] 34)
    rw [show ((W.setCell ⟨E, 0, none⟩ (.bool true)).alloc (.cells #[.int .i64 3, .string bs] 24)).heap.size = W.heap.size + 1 by simp [World.setCell]] at h
    exact h
  have he3 : (((W.setCell ⟨E, 0, none⟩ (.bool true)).alloc (.cells #[.int .i64 3, .string bs] 24)).alloc (.cells #[.int .i64 0, .int .i64 x, .int .i64 y, .bool true, .slice p xs.length c] 34)).heap[E]? = some (.cells #[.bool true] 4 (0, 0)) := (Go.Deep.blk_alloc_lt _ _ _ (by simp [World.setCell]; omega)).trans ((Go.Deep.blk_alloc_lt _ _ _ (by simp [World.setCell]; omega)).trans (row_setCell (k := 0) HBE.out (.bool true)))
  have ha3 := HAT.out.only HBE.out (by decide) (by decide) hlow hk3
  have hu3 := own_only HU.out HBE.out (by decide) hk3
  have hh3 : (((W.setCell ⟨E, 0, none⟩ (.bool true)).alloc (.cells #[.int .i64 3, .string bs] 24)).alloc (.cells #[.int .i64 0, .int .i64 x, .int .i64 y, .bool true, .slice p xs.length c] 34)).heap[H]? = some (.cells #[.string hint] 9 (0, 0)) := (hk3.block H (Array.getElem?_eq_some_iff.1 HBH.out).1 (by
    rintro rfl
    have h := HBE.out
    rw [HBH.out] at h
    injection h with h
    injection h with _ e _
    exact absurd e (by decide)) (fun e => by cases e)).trans HBH.out
  generalize W.heap.size + 1 = R at hr3 ⊢
  generalize World.alloc _ _ = w3 at hk3 hr3 he3 ha3 hu3 hh3 ⊢
  have HK := Lib.hid hk3
  have HR := Lib.hid hr3
  have HE := Lib.hid he3
  have HA3 := Lib.hid ha3
  have HU3 := Lib.hid hu3
  have h0 : w3.cell? ⟨H, 0, none⟩ = some (.string hint) := cell_of_row w3 H 0 _ _ _ hh3
  clear hk3 hr3 he3 ha3 hu3 hh3 e0 hf0 hEl
  refine (bytes_at w w3 b d HA3.out).mono ?_
  rintro e4 w4 ⟨rfl, hw4⟩
  subst hw4
  go_wp2_with fail
  refine (find_any hint w3 HH.out).mono ?_
  rintro e5 w5 ⟨rfl, hb5⟩
  have HB5 := Lib.hid hb5
  clear hb5 h0
  go_wp2_with fail
  have hj := judge_any (Pl.find hint.data.toList) ⟨d.bs.toArray⟩ w5 (by show d.bs.toArray.size ≤ 4000; have := HZ.out; simp; omega) ((HG.out.below HA3.out.below).below HB5.out)
  rw [show (⟨d.bs.toArray⟩ : ByteArray).data.toList = d.bs from rfl, HJ.out] at hj
  dsimp only at hj
  refine hj.mono ?_
  clear hj
  rintro e6 w6 ⟨rfl, hb6⟩
  have HB6 := Lib.hid (bthen HB5.out hb6)
  clear hb6
  go_wp2_with fail
  have hb7 : Below w3.heap.size w3 (w6.alloc (.cells #[.int .i64 x, .int .i64 y, .bool true] 31)) := HB6.out.alloc HB6.out.size _
  have hv7 : (w6.alloc (.cells #[.int .i64 x, .int .i64 y, .bool true] 31)).heap[w6.heap.size]? = some (.cells #[.int .i64 x, .int .i64 y, .bool true] 31 (0, 0)) := heap_alloc_new w6 _
  generalize w6.heap.size = V at hv7 ⊢
  generalize World.alloc _ _ = w7 at hb7 hv7 ⊢
  have HB7 := Lib.hid hb7
  have HV7 := Lib.hid hv7
  have hr7 := (hb7.block _ (Array.getElem?_eq_some_iff.1 HR.out).1).trans HR.out
  have HR7 := Lib.hid hr7
  have HU7 := Lib.hid (own_stay HU3.out (Stay.below hb7))
  have HG7 := Lib.hid ((HG.out.below HA3.out.below).below hb7)
  have r1 : w7.cell? ⟨R, 1, none⟩ = some (.int .i64 x) := cell_of_row w7 R 1 _ _ _ hr7
  have r2 : w7.cell? ⟨R, 2, none⟩ = some (.int .i64 y) := cell_of_row w7 R 2 _ _ _ hr7
  have r3 : w7.cell? ⟨R, 3, none⟩ = some (.bool true) := cell_of_row w7 R 3 _ _ _ hr7
  have r4 : w7.cell? ⟨R, 4, none⟩ = some (.slice p xs.length c) := cell_of_row w7 R 4 _ _ _ hr7
  have q0 : w7.cell? ⟨V, 0, none⟩ = some (.int .i64 x) := cell_of_row w7 V 0 _ _ _ hv7
  have q1 : w7.cell? ⟨V, 1, none⟩ = some (.int .i64 y) := cell_of_row w7 V 1 _ _ _ hv7
  have q2 : w7.cell? ⟨V, 2, none⟩ = some (.bool true) := cell_of_row w7 V 2 _ _ _ hv7
  clear hb7 hv7 hr7
  have HTl : Hid (∀ W', Drew w7 W' → Calls Tryd.prog 21 #[.int .i64 x, .string ⟨d.bs.toArray⟩] W' fun e w' => (∃ v, e = .returned v ∧ w'.ownsRow w7.heap.size 3 1 v xs.length (ints xs)) ∧ Below w7.heap.size w7 w') := Lib.hid fun W' h => by
    have ht := tell_any x ⟨d.bs.toArray⟩ W' hx (by show d.bs.toArray.size ≤ 4000; have := HZ.out; simp; omega) (HG7.out.below h.below)
    rw [show (⟨d.bs.toArray⟩ : ByteArray).data.toList = d.bs from rfl, HT.out] at ht
    refine ht.mono ?_
    rintro e w' ⟨⟨v, rfl, ho⟩, hb⟩
    have hz : W'.heap.size = w7.heap.size := by rw [h.heap]
    rw [hz] at ho
    exact ⟨⟨v, rfl, ho⟩, bthen h.below hb⟩
  go_region_with
    (first
      | (go_at_call 21
         with_reducible refine (HTl.out _ ?_).mono ?_
         · first | exact (Drew.refl w7).drew | exact Drew.refl w7 | exact ⟨_, rfl⟩
         rintro e8 w8 ⟨⟨v8, rfl, ho8⟩, hb8⟩
         obtain ⟨p8, c8, rfl⟩ := own_form ho8
         have HI8 := Lib.hid (own_ints ho8)
         have HI7 := Lib.hid (own_ints (own_stay HU7.out (Stay.below hb8)))
         have HB8 := Lib.hid hb8
         have hr8 := (hb8.block _ (Array.getElem?_eq_some_iff.1 HR7.out).1).trans HR7.out
         have hv8 := (hb8.block _ (Array.getElem?_eq_some_iff.1 HV7.out).1).trans HV7.out
         have r1' : w8.cell? ⟨R, 1, none⟩ = some (.int .i64 x) := cell_of_row w8 R 1 _ _ _ hr8
         have r2' : w8.cell? ⟨R, 2, none⟩ = some (.int .i64 y) := cell_of_row w8 R 2 _ _ _ hr8
         have r3' : w8.cell? ⟨R, 3, none⟩ = some (.bool true) := cell_of_row w8 R 3 _ _ _ hr8
         have r4' : w8.cell? ⟨R, 4, none⟩ = some (.slice p xs.length c) := cell_of_row w8 R 4 _ _ _ hr8
         have q0' : w8.cell? ⟨V, 0, none⟩ = some (.int .i64 x) := cell_of_row w8 V 0 _ _ _ hv8
         have q1' : w8.cell? ⟨V, 1, none⟩ = some (.int .i64 y) := cell_of_row w8 V 1 _ _ _ hv8
         have q2' : w8.cell? ⟨V, 2, none⟩ = some (.bool true) := cell_of_row w8 V 2 _ _ _ hv8
         clear ho8 hb8 hr8 hv8)
      | (go_at_call 20
         refine (topSame_any _ _ _ xs HL.out HI7.out HI8.out).mono ?_
         rintro e9 w9 ⟨rfl, hd9⟩
         have HB9 := Lib.hid (HB8.out.trans hd9.below)
         clear hd9))
  all_goals
    go_wp2_with fail
    go_ret
    refine ⟨rfl, HK.out.bel (bthen HB7.out HB9.out), ((bthen HB7.out HB9.out).block _ (Array.getElem?_eq_some_iff.1 HE.out).1).trans HE.out⟩

/-- what is kept while the acts are played. -/
def WhJ (E H : Nat) (hint : ByteArray) (_k : Nat) (W : World) : Prop := (∃ v, W.heap[E]? = some (.cells #[.bool v] 4 (0, 0))) ∧ W.heap[H]? = some (.cells #[.string hint] 9 (0, 0))
theorem whole_looks (w : World) (l : List Ac) (E H : Nat) (hint : ByteArray) (hlow : w.heap.size ≤ E) (hh : hint.size ≤ maxLen) (hg : Gl w) : Looks w (newDS (Pl.find hint.data.toList)) l 17 #[.pointer (some ⟨E, 0, none⟩), .pointer (some ⟨H, 0, none⟩)] (WhJ E H hint) := by
  intro k a W b u base hx _ hJ hat hu
  obtain ⟨⟨v0, hE⟩, hH⟩ := hJ
  have hf := find_range hint.data.toList
  have h0 := okNew _ hf.1 hf.2
  have hok := (runA_ok _ h0 (l.take k)).doDS a.1 a.2.data.toList
  have hol := out_len _ (runA_ok _ h0 (l.take k)) a.1 a.2.data.toList
  have hsc := ((ScF.new (Pl.find hint.data.toList)).run (l.take k)).doDS a.1 a.2.data.toList
  have hrep := ok_reply (runA (newDS (Pl.find hint.data.toList)) (l.take k)) a.1 a.2.data.toList
  have hhint : (doDS (runA (newDS (Pl.find hint.data.toList)) (l.take k)) a.1 a.2.data.toList).1.hint = Pl.find hint.data.toList := by
    have hr : ∀ (l : List Ac) (d : DS), (runA d l).hint = d.hint := fun l => by
      induction l with
      | nil => exact fun _ => rfl
      | cons a l ih => exact fun d => (ih (act d a)).trans (act_keep d a.1 a.2.data.toList).1
    exact ((act_keep _ _ _).1).trans (hr _ _)
  have hvr := vd_range _ hok.h0 hok.h1
  have hjd := vd_jd _ hsc hok.h0 hok.h1
  have hlen := hok.len
  have hout : a.1 = 3 → (doDS (runA (newDS (Pl.find hint.data.toList)) (l.take k)) a.1 a.2.data.toList).2.code = 0 → (doDS (runA (newDS (Pl.find hint.data.toList)) (l.take k)) a.1 a.2.data.toList).2.out = tell (vd (doDS (runA (newDS (Pl.find hint.data.toList)) (l.take k)) a.1 a.2.data.toList).1).1 (doDS (runA (newDS (Pl.find hint.data.toList)) (l.take k)) a.1 a.2.data.toList).1.bs ∧ (doDS (runA (newDS (Pl.find hint.data.toList)) (l.take k)) a.1 a.2.data.toList).1.ended = true := by
    intro h3
    rw [h3]
    unfold doDS
    repeat' split
    all_goals first
      | (intro h; simp [rp0] at h; done)
      | (intro _; exact ⟨rfl, rfl⟩)
      | (intro _; omega)
  have hA := hat
  unfold act at hat
  obtain ⟨d1, hd1⟩ : ∃ x, (doDS (runA (newDS (Pl.find hint.data.toList)) (l.take k)) a.1 a.2.data.toList).1 = x := ⟨_, rfl⟩
  obtain ⟨r, hr⟩ : ∃ r, (doDS (runA (newDS (Pl.find hint.data.toList)) (l.take k)) a.1 a.2.data.toList).2 = r := ⟨_, rfl⟩
  rw [hd1] at hat hvr hlen hjd hout hrep hhint
  rw [hr] at hu hrep hout hol ⊢
  obtain ⟨cd, ⟨x, y, f⟩, out⟩ := r
  by_cases hc : ¬ a.1 = 3 ∨ ¬ cd = 0
  · refine (whole_skip _ E H a.1 a.2 cd x y f u W hc).mono ?_
    rintro e w' ⟨rfl, hb⟩
    exact ⟨rfl, ⟨⟨v0, (hb.block _ (Array.getElem?_eq_some_iff.1 hE).1).trans hE⟩, (hb.block _ (Array.getElem?_eq_some_iff.1 hH).1).trans hH⟩, hA.next hb⟩
  · have ha3 : a.1 = 3 := Classical.byContradiction fun h => hc (.inl h)
    have hc0 : cd = 0 := Classical.byContradiction fun h => hc (.inr h)
    subst hc0
    have hv : (x, y, f) = vd d1 := hrep rfl (by omega)
    obtain ⟨ho, hen⟩ := hout ha3 rfl
    have hfin := vd_ended d1 hen
    rw [← hv] at hvr ho hjd hfin
    dsimp only at hvr ho hjd hfin
    subst hfin
    rw [hhint] at hjd
    rw [ha3]
    refine (whole_look w b E H d1 a.2 hint x y u out W v0 base hat hu (by dsimp only at hol; unfold maxLen; omega) hh (by omega) hg hE hH hlow hjd.symm ho.symm hvr).mono ?_
    rintro e w' ⟨rfl, hk, hE'⟩
    refine ⟨rfl, ⟨⟨true, hE'⟩, (hk.block H (Array.getElem?_eq_some_iff.1 hH).1 ?_ (fun e => by cases e)).trans hH⟩, hA.only hE (by decide) (by decide) hlow hk⟩
    rintro rfl
    rw [hH] at hE
    injection hE with hE
    injection hE with _ e _
    exact absurd e (by decide)
theorem enters_whole : ∀ args W, (callFunc 17 args).run Tryd.prog W = .ok (.enter 17 args) W := enters_of Tryd.func17 (by kernel_rfl) rfl

set_option maxRecDepth 100000 in
set_option maxHeartbeats 2000000 in
theorem topWhole_walk (hint : ByteArray) (v : Value) (l : List Ac) (w : World) (hh : hint.size ≤ maxLen) (hl : Acts w v l) (hg : Gl w) :
    Calls Tryd.prog 7 #[.string hint, v] w fun e w' => e = .returned (.bool true) ∧ Below w.heap.size w w' := by
  have HG := Lib.hid hg
  have HH := Lib.hid hh
  have HA := Lib.hid hl
  obtain ⟨p, c, rfl, _⟩ := hl
  clear hg hh
  go_enter Tryd.func7, Tryd.ntmps7
  go_wp2_with fail
  have hb0 : Below w.heap.size w ((w.alloc (.cells #[.string hint] 9)).alloc (.cells #[.bool false] 4)) := two_new _ _ _
  have hh0 : ((w.alloc (.cells #[.string hint] 9)).alloc (.cells #[.bool false] 4)).heap[w.heap.size]? = some (.cells #[.string hint] 9 (0, 0)) := (Go.Deep.blk_alloc_lt _ _ _ (by simp)).trans (heap_alloc_new w _)
  have he0 : ((w.alloc (.cells #[.string hint] 9)).alloc (.cells #[.bool false] 4)).heap[w.heap.size + 1]? = some (.cells #[.bool false] 4 (0, 0)) := by
    have h := heap_alloc_new (w.alloc (.cells #[.string hint] 9)) (.cells #[.bool false] 4)
    rw [show (w.alloc (.cells #[.string hint] 9)).heap.size = w.heap.size + 1 by simp] at h
    exact h
  refine (play_any w _ hint _ l 17 _ (WhJ (w.heap.size + 1) w.heap.size hint) enters_whole hb0 HG.out HH.out HA.out ?_ (whole_looks w l (w.heap.size + 1) w.heap.size hint (by omega) HH.out HG.out) ⟨⟨_, he0⟩, hh0⟩).mono ?_
  · rintro k W W' ⟨⟨v, hE⟩, hH⟩ hs
    exact ⟨⟨v, hs _ _ _ _ (by decide) (by decide) hE⟩, hs _ _ _ _ (by decide) (by decide) hH⟩
  · rintro e1 w1 ⟨b, rfl, hA1, ⟨v, hE⟩, _⟩
    have HB1 := Lib.hid hA1.below
    have e0 : w1.cell? ⟨w.heap.size + 1, 0, none⟩ = some (.bool v) := cell_of_row w1 _ 0 _ _ _ hE
    clear hA1 hE hb0 hh0 he0
    cases v
    · go_wp2_with fail
      refine (alive_any _ (HG.out.below HB1.out)).mono ?_
      rintro e2 w2 ⟨rfl, hb2⟩
      have HB2 := Lib.hid (bthen HB1.out hb2)
      clear hb2 e0
      go_wp2_with fail
      go_ret
      exact ⟨rfl, HB2.out⟩
    · go_wp2_with fail
      go_ret
      exact ⟨rfl, HB1.out⟩
end Go.Proofs.YtefohnbmifblkabDoor
