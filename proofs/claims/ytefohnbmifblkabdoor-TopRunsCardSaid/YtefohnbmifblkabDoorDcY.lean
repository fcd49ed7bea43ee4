/-
  The walk of decode.Whole.
-/
import Derived.Test.YtefohnbmifblkabDoorDcF
namespace Go.Proofs.YtefohnbmifblkabDoor
open Go.RowKit
open Pl (St st0 byte dOk)

set_option maxRecDepth 100000 in
set_option maxHeartbeats 4000000 in
theorem whole_any (e : Int) (bs : ByteArray) (w : World) (he : 1 ≤ e ∧ e ≤ 6) (hlen : bs.size ≤ 4000) :
    Calls Tryd.prog 31 #[.int .i64 e, .string bs] w fun x w' => AnsE w (Pl.dWhole e bs.data.toList) x w' := by
  have hok := Pl.dOk_zero e he
  have hok2 := Pl.dFeed_ok e bs.data.toList st0 hok
  have hl := Pl.dFeed_len e bs.data.toList st0
  obtain ⟨s', o, hf⟩ : ∃ s' o, Pl.dFeed e st0 bs.data.toList = (s', o) := ⟨_, _, rfl⟩
  have HF : Hid (∀ W, Calls Tryd.prog 47 #[.int .i64 e, stV st0, .string bs] W fun x w' => AnsS W s' o x w') := Lib.hid fun W => by
    have h := feed_any e st0 bs W hok hlen
    rwa [hf] at h
  have hW : Pl.dWhole e bs.data.toList = o ++ Pl.dEnd s' := by unfold Pl.dWhole; rw [hf]
  rw [hf] at hok2 hl
  have HE : Hid (∀ W, Calls Tryd.prog 48 #[.int .i64 e, stV s'] W fun x w' => AnsE W (Pl.dEnd s') x w') := Lib.hid fun W => end_any e s' W hok2
  have hel := Pl.dEnd_len s'
  rw [hW]
  have hs0 : bs.data.toList.length = bs.size := by simp
  have HL : Hid (o.length + (Pl.dEnd s').length ≤ 1000000) := Lib.hid (by dsimp only at hl; omega)
  clear hok hok2 hl hf hW hel hs0
  go_enter Tryd.func31, Tryd.ntmps31
  go_wp2_with fail
  refine (HF.out _).mono ?_
  rintro e1 w1 ⟨⟨v1, rfl, ho1⟩, hb1⟩
  have HO1 := Lib.hid ho1
  have hz1 := hb1.size
  have HB1 := Lib.hid hb1
  clear ho1 hb1
  simp only [stV]
  go_wp2_with fail
  refine (HE.out _).mono ?_
  rintro e2 w2 ⟨⟨v2, rfl, ho2⟩, hb2⟩
  have hB : Below w.heap.size w w2 := HB1.out.trans ((Below.alloc (Below.refl _ _) (Nat.le_refl _) _ : Below w1.heap.size w1 (w1.alloc _)).trans (hb2.mono (by simp)) |>.mono hz1)
  have HO3 : Hid (w2.ownsRow w.heap.size 3 1 v1 o.length (ints o)) := Lib.hid (own_below (HO1.out.alloc _) hb2 (Nat.le_refl _))
  have hz2 := hB.size
  have HB2 := Lib.hid hB
  have HO2 := Lib.hid ho2
  clear hb2 ho2 hB
  go_wp2_with (at_builtin; (with_reducible refine gate_append ?_); refine wpList_app (by rfl) _ _ (by rfl) w.heap.size _ _ _ o.length (Pl.dEnd s').length (ints o) (ints (Pl.dEnd s')) (by rfl) (by rfl) HO3.out HO2.out (ints_one _) HL.out hz2 ?_; intro v3 w3 HA3)
  refine bodyPost_ret (by simp [results, Tryd.results31, go_sem]; rfl) rfl ?_
  have hA := HA3.own
  rw [ints_app, ← List.length_append] at hA
  have hB := HB2.out.trans (HA3.below HO3.out hz2)
  exact ⟨⟨_, rfl, hA⟩, hB⟩
end Go.Proofs.YtefohnbmifblkabDoor
