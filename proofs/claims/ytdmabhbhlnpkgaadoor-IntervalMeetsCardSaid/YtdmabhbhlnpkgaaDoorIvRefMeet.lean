/- The reference's both and Meet. (Printed by gen_refmeet.py.) -/
import Derived.Test.YtdmabhbhlnpkgaaDoorIvRefA
import Derived.Deep.RegionHeld3
namespace Go.Proofs.YtdmabhbhlnpkgaaDoor
open Go.RowKit

def bothI (p q : PI) : PI := (((if 0 < cmC (lowI q) (lowI p) then q.1.1 else p.1.1), (if cmC (uppI q) (uppI p) < 0 then q.1.2 else p.1.2)), ((if 0 < cmC (lowI q) (lowI p) then q.2.1 else p.2.1), (if cmC (uppI q) (uppI p) < 0 then q.2.2 else p.2.2)))
theorem both_low (p q : PI) : lowI (bothI p q) = maxS cmC (lowI p) (lowI q) := by
  have := lin_cut.anti (lowI p) (lowI q)
  unfold maxS bothI lowI
  by_cases h : 0 < cmC (lowI q) (lowI p)
  · have h' : cmC (lowI p) (lowI q) < 0 := by omega
    unfold lowI at h h'
    simp only [if_pos h, if_pos h']
  · have h' : ¬ cmC (lowI p) (lowI q) < 0 := by omega
    unfold lowI at h h'
    simp only [if_neg h, if_neg h']
theorem both_upp (p q : PI) : uppI (bothI p q) = minS cmC (uppI p) (uppI q) := by
  unfold minS bothI uppI
  by_cases h : cmC (uppI q) (uppI p) < 0
  · unfold uppI at h
    simp only [if_pos h]
  · unfold uppI at h
    simp only [if_neg h]
theorem both_ok {w : World} {p q : PI} (hp : okI w p) (hq : okI w q) : okI w (bothI p q) := by
  unfold bothI okI
  constructor
  · show RW w (if _ then q.1.1 else p.1.1).1 (if _ then q.1.1 else p.1.1).2
    split
    · exact hq.1
    · exact hp.1
  · show RW w (if _ then q.1.2 else p.1.2).1 (if _ then q.1.2 else p.1.2).2
    split
    · exact hq.2
    · exact hp.2
abbrev zI : PI := (((VC.zero, Val.zero), (VC.zero, Val.zero)), (false, false))
/-- the boxes of both -/
structure BoI (w : World) (p q u : PI) (wr : World) : Prop where
  b2 : Blk wr w.heap.size 37 (arrI p)
  b3 : Blk wr (w.heap.size + 1) 37 (arrI q)
  b4 : Blk wr (w.heap.size + 2) 37 (arrI zI)
  b5 : Blk wr (w.heap.size + 3) 37 (arrI u)
  bel : Below w.heap.size w wr
theorem BoI.step {w : World} {p q u : PI} {wr w' : World} (h : BoI w p q u wr) (hb : Below wr.heap.size wr w') : BoI w p q u w' := ⟨h.b2.step hb, h.b3.step hb, h.b4.step hb, h.b5.step hb, h.bel.step' hb⟩
theorem BoI.lo {w : World} {p q u : PI} {wr : World} (h : BoI w p q u wr) : BoI w p q ((q.1.1, u.1.2), (q.2.1, u.2.2)) ((setV wr (w.heap.size + 3) 0 q.1.1.1).setCell ⟨w.heap.size + 3, 10, none⟩ (.bool q.2.1)) :=
  ⟨(h.b2.farV (by omega) 0 _).far (by show _ ≠ w.heap.size + 3; omega) _, (h.b3.farV (by omega) 0 _).far (by show _ ≠ w.heap.size + 3; omega) _, (h.b4.farV (by omega) 0 _).far (by show _ ≠ w.heap.size + 3; omega) _,
   (((((h.b5.set_ 0 _).set_ 1 _).set_ 2 _).set_ 3 _).set_ 4 _).set_ 10 _, (below_setV h.bel (by omega) 0 _).setCell (by show _ ≤ w.heap.size + 3; omega) _⟩
theorem BoI.hi {w : World} {p q u : PI} {wr : World} (h : BoI w p q u wr) : BoI w p q ((u.1.1, q.1.2), (u.2.1, q.2.2)) ((setV wr (w.heap.size + 3) 5 q.1.2.1).setCell ⟨w.heap.size + 3, 11, none⟩ (.bool q.2.2)) :=
  ⟨(h.b2.farV (by omega) 5 _).far (by show _ ≠ w.heap.size + 3; omega) _, (h.b3.farV (by omega) 5 _).far (by show _ ≠ w.heap.size + 3; omega) _, (h.b4.farV (by omega) 5 _).far (by show _ ≠ w.heap.size + 3; omega) _,
   (((((h.b5.set_ 5 _).set_ 6 _).set_ 7 _).set_ 8 _).set_ 9 _).set_ 11 _, (below_setV h.bel (by omega) 5 _).setCell (by show _ ≤ w.heap.size + 3; omega) _⟩

set_option maxRecDepth 100000 in
set_option maxHeartbeats 2000000 in
theorem rboth_any (p q : PI) (w : World) (hp : okI w p) (hq : okI w q) : Calls Tryd.prog 48 #[aggI p, aggI q] w fun e w' => e = .returned (aggI (bothI p q)) ∧ Below w.heap.size w w' := by
  have HP := Lib.hid hp
  have HQ := Lib.hid hq
  have I0 : Hid (BoI w p q p ((((w.alloc (Obj.cells (arrI p) 37)).alloc (Obj.cells (arrI q) 37)).alloc (Obj.cells (arrI zI) 37)).alloc (Obj.cells (arrI p) 37))) :=
    Lib.hid ⟨(((Blk.new_at rfl).alloc _).alloc _).alloc _, ((Blk.new_at (by simp)).alloc _).alloc _, (Blk.new_at (by simp)).alloc _, Blk.new_at (by simp), (((Below.refl w.heap.size w).alloc (Nat.le_refl _) _).alloc (by simp) _).alloc (by simp; omega) _ |>.alloc (by simp; omega) _⟩
  clear hp hq
  go_enter Tryd.func48, Tryd.ntmps48
  go_upto_region 2 with fail
  change (Code.region 2 _ _).wp _ _ _ ((((w.alloc (Obj.cells (arrI p) 37)).alloc (Obj.cells (arrI q) 37)).alloc (Obj.cells (arrI zI) 37)).alloc (Obj.cells (arrI p) 37))
  generalize (((w.alloc (Obj.cells (arrI p) 37)).alloc (Obj.cells (arrI q) 37)).alloc (Obj.cells (arrI zI) 37)).alloc (Obj.cells (arrI p) 37) = w0 at *
  obtain ⟨⟨x0, x1, x2, x3, x4⟩, ⟨x5, x6, x7, x8, x9⟩, x10, x11⟩ := IAt.of_blk I0.out.b2
  obtain ⟨⟨y0, y1, y2, y3, y4⟩, ⟨y5, y6, y7, y8, y9⟩, y10, y11⟩ := IAt.of_blk I0.out.b3
  go_wp2_with fail
  refine (rbefore_any q p _ (HQ.out.step I0.out.bel) (HP.out.step I0.out.bel)).mono ?_
  rintro e w1 ⟨rfl, hb1⟩
  have I1 := Lib.hid (I0.out.step hb1)
  clear hb1 I0 x0 x1 x2 x3 x4 x5 x6 x7 x8 x9 x10 x11 y0 y1 y2 y3 y4 y5 y6 y7 y8 y9 y10 y11
  by_cases hl : 0 < cmC (q.1.1.2, !q.2.1) (p.1.1.2, !p.2.1)
  · have HL : Hid (0 < cmC (lowI q) (lowI p)) := Lib.hid hl
    obtain ⟨⟨x0, x1, x2, x3, x4⟩, ⟨x5, x6, x7, x8, x9⟩, x10, x11⟩ := IAt.of_blk I1.out.b5
    obtain ⟨⟨y0, y1, y2, y3, y4⟩, ⟨y5, y6, y7, y8, y9⟩, y10, y11⟩ := IAt.of_blk I1.out.b3
    have zf := I1.out.b5.frozen
    go_upto_region 5 with fail
    have I2' := I1.out.lo
    change (Code.region 5 _ _).wp _ _ _ ((setV w1 (w.heap.size + 3) 0 q.1.1.1).setCell ⟨w.heap.size + 3, 10, none⟩ (.bool q.2.1))
    generalize (setV w1 (w.heap.size + 3) 0 q.1.1.1).setCell ⟨w.heap.size + 3, 10, none⟩ (.bool q.2.1) = w2 at *
    have I2 := Lib.hid I2'
    clear hl x0 x1 x2 x3 x4 x5 x6 x7 x8 x9 x10 x11 y0 y1 y2 y3 y4 y5 y6 y7 y8 y9 y10 y11 zf I2' I1
    obtain ⟨⟨x0, x1, x2, x3, x4⟩, ⟨x5, x6, x7, x8, x9⟩, x10, x11⟩ := IAt.of_blk I2.out.b2
    obtain ⟨⟨y0, y1, y2, y3, y4⟩, ⟨y5, y6, y7, y8, y9⟩, y10, y11⟩ := IAt.of_blk I2.out.b3
    go_wp2_with fail
    refine (rbeyond_any q p _ (HQ.out.step I2.out.bel) (HP.out.step I2.out.bel)).mono ?_
    rintro e w3 ⟨rfl, hb3⟩
    have I3 := Lib.hid (I2.out.step hb3)
    clear hb3 I2 x0 x1 x2 x3 x4 x5 x6 x7 x8 x9 x10 x11 y0 y1 y2 y3 y4 y5 y6 y7 y8 y9 y10 y11
    by_cases hh : cmC (q.1.2.2, q.2.2) (p.1.2.2, p.2.2) < 0
    · have HH : Hid (cmC (uppI q) (uppI p) < 0) := Lib.hid hh
      obtain ⟨⟨x0, x1, x2, x3, x4⟩, ⟨x5, x6, x7, x8, x9⟩, x10, x11⟩ := IAt.of_blk I3.out.b5
      obtain ⟨⟨y0, y1, y2, y3, y4⟩, ⟨y5, y6, y7, y8, y9⟩, y10, y11⟩ := IAt.of_blk I3.out.b3
      have zf := I3.out.b5.frozen
      go_upto_region 8 with fail
      have I4' := I3.out.hi
      change (Code.region 8 _ _).wp _ _ _ ((setV w3 (w.heap.size + 3) 5 q.1.2.1).setCell ⟨w.heap.size + 3, 11, none⟩ (.bool q.2.2))
      generalize (setV w3 (w.heap.size + 3) 5 q.1.2.1).setCell ⟨w.heap.size + 3, 11, none⟩ (.bool q.2.2) = w4 at *
      have I4 := Lib.hid I4'
      clear hh x0 x1 x2 x3 x4 x5 x6 x7 x8 x9 x10 x11 y0 y1 y2 y3 y4 y5 y6 y7 y8 y9 y10 y11 zf I4' I3
      obtain ⟨⟨x0, x1, x2, x3, x4⟩, ⟨x5, x6, x7, x8, x9⟩, x10, x11⟩ := IAt.of_blk I4.out.b5
      obtain ⟨⟨y0, y1, y2, y3, y4⟩, ⟨y5, y6, y7, y8, y9⟩, y10, y11⟩ := IAt.of_blk I4.out.b4
      have zf := I4.out.b4.frozen
      have hB := putI I4.out.b4 ((q.1.1, q.1.2), (q.2.1, q.2.2))
      go_wp2_with fail
      obtain ⟨W, hW, HB⟩ : ∃ W, w4.setCells (w.heap.size + 2) 0 (recI ((q.1.1, q.1.2), (q.2.1, q.2.2))) = W ∧ Hid (Blk W (w.heap.size + 2) 37 (arrI ((q.1.1, q.1.2), (q.2.1, q.2.2)))) := ⟨_, rfl, Lib.hid hB⟩
      have HBe : Hid (Below w.heap.size w W) := by rw [Hid, ← hW]; exact below_setCells _ I4.out.bel (by omega) _
      have HU : Hid (bothI p q = ((q.1.1, q.1.2), (q.2.1, q.2.2))) := by unfold Hid bothI; simp only [if_pos HL.out, if_pos HH.out]
      simp only [recI, recV, VC.list, List.cons_append, List.nil_append, World.setCells, Nat.zero_add, Nat.reduceAdd] at hW
      rw [hW]
      refine bodyPost_ret (results_iv rfl _ (w.heap.size + 2) 0 rfl _ ((q.1.1, q.1.2), (q.2.1, q.2.2)) (IAt.of_blk HB.out)) rfl ⟨?_, HBe.out⟩
      rw [HU.out]
    · have HH : Hid (¬ cmC (uppI q) (uppI p) < 0) := Lib.hid hh
      go_upto_region 8 with fail
      have I4 := Lib.hid I3.out
      clear hh I3
      obtain ⟨⟨x0, x1, x2, x3, x4⟩, ⟨x5, x6, x7, x8, x9⟩, x10, x11⟩ := IAt.of_blk I4.out.b5
      obtain ⟨⟨y0, y1, y2, y3, y4⟩, ⟨y5, y6, y7, y8, y9⟩, y10, y11⟩ := IAt.of_blk I4.out.b4
      have zf := I4.out.b4.frozen
      have hB := putI I4.out.b4 ((q.1.1, p.1.2), (q.2.1, p.2.2))
      go_wp2_with fail
      obtain ⟨W, hW, HB⟩ : ∃ W, w3.setCells (w.heap.size + 2) 0 (recI ((q.1.1, p.1.2), (q.2.1, p.2.2))) = W ∧ Hid (Blk W (w.heap.size + 2) 37 (arrI ((q.1.1, p.1.2), (q.2.1, p.2.2)))) := ⟨_, rfl, Lib.hid hB⟩
      have HBe : Hid (Below w.heap.size w W) := by rw [Hid, ← hW]; exact below_setCells _ I4.out.bel (by omega) _
      have HU : Hid (bothI p q = ((q.1.1, p.1.2), (q.2.1, p.2.2))) := by unfold Hid bothI; simp only [if_pos HL.out, if_neg (show ¬ cmC (uppI q) (uppI p) < 0 by have := HH.out; omega)]
      simp only [recI, recV, VC.list, List.cons_append, List.nil_append, World.setCells, Nat.zero_add, Nat.reduceAdd] at hW
      rw [hW]
      refine bodyPost_ret (results_iv rfl _ (w.heap.size + 2) 0 rfl _ ((q.1.1, p.1.2), (q.2.1, p.2.2)) (IAt.of_blk HB.out)) rfl ⟨?_, HBe.out⟩
      rw [HU.out]
  · have HL : Hid (¬ 0 < cmC (lowI q) (lowI p)) := Lib.hid hl
    go_upto_region 5 with fail
    have I2 := Lib.hid I1.out
    clear hl I1
    obtain ⟨⟨x0, x1, x2, x3, x4⟩, ⟨x5, x6, x7, x8, x9⟩, x10, x11⟩ := IAt.of_blk I2.out.b2
    obtain ⟨⟨y0, y1, y2, y3, y4⟩, ⟨y5, y6, y7, y8, y9⟩, y10, y11⟩ := IAt.of_blk I2.out.b3
    go_wp2_with fail
    refine (rbeyond_any q p _ (HQ.out.step I2.out.bel) (HP.out.step I2.out.bel)).mono ?_
    rintro e w3 ⟨rfl, hb3⟩
    have I3 := Lib.hid (I2.out.step hb3)
    clear hb3 I2 x0 x1 x2 x3 x4 x5 x6 x7 x8 x9 x10 x11 y0 y1 y2 y3 y4 y5 y6 y7 y8 y9 y10 y11
    by_cases hh : cmC (q.1.2.2, q.2.2) (p.1.2.2, p.2.2) < 0
    · have HH : Hid (cmC (uppI q) (uppI p) < 0) := Lib.hid hh
      obtain ⟨⟨x0, x1, x2, x3, x4⟩, ⟨x5, x6, x7, x8, x9⟩, x10, x11⟩ := IAt.of_blk I3.out.b5
      obtain ⟨⟨y0, y1, y2, y3, y4⟩, ⟨y5, y6, y7, y8, y9⟩, y10, y11⟩ := IAt.of_blk I3.out.b3
      have zf := I3.out.b5.frozen
      go_upto_region 8 with fail
      have I4' := I3.out.hi
      change (Code.region 8 _ _).wp _ _ _ ((setV w3 (w.heap.size + 3) 5 q.1.2.1).setCell ⟨w.heap.size + 3, 11, none⟩ (.bool q.2.2))
      generalize (setV w3 (w.heap.size + 3) 5 q.1.2.1).setCell ⟨w.heap.size + 3, 11, none⟩ (.bool q.2.2) = w4 at *
      have I4 := Lib.hid I4'
      clear hh x0 x1 x2 x3 x4 x5 x6 x7 x8 x9 x10 x11 y0 y1 y2 y3 y4 y5 y6 y7 y8 y9 y10 y11 zf I4' I3
      obtain ⟨⟨x0, x1, x2, x3, x4⟩, ⟨x5, x6, x7, x8, x9⟩, x10, x11⟩ := IAt.of_blk I4.out.b5
      obtain ⟨⟨y0, y1, y2, y3, y4⟩, ⟨y5, y6, y7, y8, y9⟩, y10, y11⟩ := IAt.of_blk I4.out.b4
      have zf := I4.out.b4.frozen
      have hB := putI I4.out.b4 ((p.1.1, q.1.2), (p.2.1, q.2.2))
      go_wp2_with fail
      obtain ⟨W, hW, HB⟩ : ∃ W, w4.setCells (w.heap.size + 2) 0 (recI ((p.1.1, q.1.2), (p.2.1, q.2.2))) = W ∧ Hid (Blk W (w.heap.size + 2) 37 (arrI ((p.1.1, q.1.2), (p.2.1, q.2.2)))) := ⟨_, rfl, Lib.hid hB⟩
      have HBe : Hid (Below w.heap.size w W) := by rw [Hid, ← hW]; exact below_setCells _ I4.out.bel (by omega) _
      have HU : Hid (bothI p q = ((p.1.1, q.1.2), (p.2.1, q.2.2))) := by unfold Hid bothI; simp only [if_neg (show ¬ 0 < cmC (lowI q) (lowI p) by have := HL.out; omega), if_pos HH.out]
      simp only [recI, recV, VC.list, List.cons_append, List.nil_append, World.setCells, Nat.zero_add, Nat.reduceAdd] at hW
      rw [hW]
      refine bodyPost_ret (results_iv rfl _ (w.heap.size + 2) 0 rfl _ ((p.1.1, q.1.2), (p.2.1, q.2.2)) (IAt.of_blk HB.out)) rfl ⟨?_, HBe.out⟩
      rw [HU.out]
    · have HH : Hid (¬ cmC (uppI q) (uppI p) < 0) := Lib.hid hh
      go_upto_region 8 with fail
      have I4 := Lib.hid I3.out
      clear hh I3
      obtain ⟨⟨x0, x1, x2, x3, x4⟩, ⟨x5, x6, x7, x8, x9⟩, x10, x11⟩ := IAt.of_blk I4.out.b5
      obtain ⟨⟨y0, y1, y2, y3, y4⟩, ⟨y5, y6, y7, y8, y9⟩, y10, y11⟩ := IAt.of_blk I4.out.b4
      have zf := I4.out.b4.frozen
      have hB := putI I4.out.b4 p
      go_wp2_with fail
      obtain ⟨W, hW, HB⟩ : ∃ W, w3.setCells (w.heap.size + 2) 0 (recI p) = W ∧ Hid (Blk W (w.heap.size + 2) 37 (arrI p)) := ⟨_, rfl, Lib.hid hB⟩
      have HBe : Hid (Below w.heap.size w W) := by rw [Hid, ← hW]; exact below_setCells _ I4.out.bel (by omega) _
      have HU : Hid (bothI p q = p) := by unfold Hid bothI; simp only [if_neg (show ¬ 0 < cmC (lowI q) (lowI p) by have := HL.out; omega), if_neg (show ¬ cmC (uppI q) (uppI p) < 0 by have := HH.out; omega)]
      simp only [recI, recV, VC.list, List.cons_append, List.nil_append, World.setCells, Nat.zero_add, Nat.reduceAdd] at hW
      rw [hW]
      refine bodyPost_ret (results_iv rfl _ (w.heap.size + 2) 0 rfl _ p (IAt.of_blk HB.out)) rfl ⟨?_, HBe.out⟩
      rw [HU.out]

/-- the rounds of the reference's Meet -/
structure RmtI (w : World) (is js : List PI) (i k : Nat) (v : Value) (gs : List PI) (wr : World) : Prop where
  own : wr.ownsRow w.heap.size 37 12 v gs.length (flat recI gs)
  mem : ∀ a, inS cmC a (spansL (gs.map ivP)) ↔ (inS cmC a (spansL ((is.take i).map ivP)) ∧ inS cmC a (spansL (js.map ivP))) ∨ (inS cmC a (spansL (is[i]?.toList.map ivP)) ∧ inS cmC a (spansL ((js.take k).map ivP)))
  le : gs.length ≤ i * 200 + k
  ok : ∀ x ∈ gs, okI w x
  bel : Below w.heap.size w wr
section
variable {w : World} {is js : List PI} {i k : Nat} {v : Value} {gs : List PI} {wr w' : World} {p q : PI}
theorem RmtI.step (h : RmtI w is js i k v gs wr) (hb : Below wr.heap.size wr w') : RmtI w is js i k v gs w' := ⟨own_step h.own hb, h.mem, h.le, h.ok, h.bel.step' hb⟩
theorem sp_one (p : PI) (h : (ivP p).ne = true) : spansL ([p].map ivP) = [(lowI p, uppI p)] := by
  show spansL ([] ++ [ivP p]) = _
  rw [spansL_snoc, h]
  rfl
theorem sp_none (p : PI) (h : (ivP p).ne = false) : spansL ([p].map ivP) = [] := by
  show spansL ([] ++ [ivP p]) = _
  rw [spansL_snoc, h]
  rfl
theorem RmtI.skip1 (h : RmtI w is js i k v gs wr) (hp : is[i]? = some p) (hne : (ivP p).ne = false) : RmtI w is js i (k + 1) v gs wr := by
  refine ⟨h.own, fun a => ?_, by have := h.le; omega, h.ok, h.bel⟩
  have := h.mem a
  rw [hp] at this ⊢
  rw [show (some p).toList = [p] from rfl, sp_none p hne] at this ⊢
  exact this.trans ⟨fun h => h.elim .inl fun h => absurd h.1 (inS_nil a), fun h => h.elim .inl fun h => absurd h.1 (inS_nil a)⟩
theorem RmtI.skip2 (h : RmtI w is js i k v gs wr) (hq : js[k]? = some q) (hne : (ivP q).ne = false) : RmtI w is js i (k + 1) v gs wr := by
  refine ⟨h.own, fun a => ?_, by have := h.le; omega, h.ok, h.bel⟩
  rw [h.mem a, take_snoc' hq, List.map_append (l₁ := js.take k), spansL_app, sp_none q hne, List.append_nil]
theorem RmtI.add {v' : Value} {m : Nat} (h : RmtI w is js i k v gs wr) (hp : is[i]? = some p) (hq : js[k]? = some q) (hnp : (ivP p).ne = true) (hnq : (ivP q).ne = true) (hop : okI w p) (hoq : okI w q) (hg : wr.grownBy w' v.ownBlock) (hm : m = gs.length + 1)
    (ho : w'.ownsRow w.heap.size 37 12 v' m (flat recI gs ++ recI (bothI p q))) : RmtI w is js i (k + 1) v' (gs ++ [bothI p q]) w' := by
  subst hm
  refine ⟨?_, fun a => ?_, by have := h.le; simp; omega, fun x hx => ?_, h.bel.grown hg h.bel.size (own_ge h.own)⟩
  · rw [flat_snoc, List.length_append]; exact ho
  · have np := ne_sp hnp
    have nq := ne_sp hnq
    have e1 : (ivP (bothI p q)).sp = (maxS cmC (lowI p) (lowI q), minS cmC (uppI p) (uppI q)) := by rw [sp_ivP, both_low, both_upp]
    have hg2 := inS_gap (l := gs.map ivP) (x := ivP (bothI p q)) (a := a) (by rw [e1]; exact maxS_V (V := VC1) np.2.1 nq.2.1) (by rw [e1]; exact minS_V (V := VC1) np.2.2 nq.2.2)
    rw [e1] at hg2
    rw [List.map_append (l₁ := gs), List.map_singleton, hg2, h.mem a, take_snoc' hq, List.map_append (l₁ := js.take k), spansL_app, inS_app, sp_one q hnq, inS_one, hp, show (some p).toList = [p] from rfl, sp_one p hnp, inS_one, maxS_le lin_cut, lt_minS lin_cut]
    constructor
    · rintro ((h | h) | ⟨⟨h1, h2⟩, h3, h4⟩)
      · exact .inl h
      · exact .inr ⟨h.1, .inl h.2⟩
      · exact .inr ⟨⟨h1, h3⟩, .inr ⟨h2, h4⟩⟩
    · rintro (h | ⟨h1, h2 | h2⟩)
      · exact .inl (.inl h)
      · exact .inl (.inr ⟨h1, h2⟩)
      · exact .inr ⟨⟨h1.1, h2.1⟩, h1.2, h2.2⟩
  · rcases List.mem_append.1 hx with hx | hx
    · exact h.ok x hx
    · simp at hx; subst hx; exact both_ok hop hoq
theorem RmtI.row (h : RmtI w is js i js.length v gs wr) (hp : is[i]? = some p) (hk : js.length ≤ 200) : RmtI w is js (i + 1) 0 v gs wr := by
  refine ⟨h.own, fun a => ?_, by have := h.le; omega, h.ok, h.bel⟩
  have hz : ¬ inS cmC a (spansL ((js.take 0).map ivP)) := by rw [List.take_zero]; exact inS_nil a
  rw [h.mem a, take_snoc' hp, List.map_append (l₁ := is.take i), spansL_app, inS_app, hp, List.take_length, show (some p).toList = [p] from rfl]
  constructor
  · rintro (⟨h1, h2⟩ | ⟨h1, h2⟩)
    · exact .inl ⟨.inl h1, h2⟩
    · exact .inl ⟨.inr h1, h2⟩
  · rintro (⟨h1 | h1, h2⟩ | ⟨_, h2⟩)
    · exact .inl ⟨h1, h2⟩
    · exact .inr ⟨h1, h2⟩
    · exact absurd h2 hz
end

set_option maxRecDepth 100000 in
set_option maxHeartbeats 4000000 in
theorem rmeet_any (is js : List PI) (A B : Option Addr) (n c n' c' : Nat) (w : World) (h : SI w A n c is) (h' : SI w B n' c' js) (hn : n ≤ 200) (hn' : n' ≤ 200) :
    Calls Tryd.prog 25 #[.slice A n c, .slice B n' c'] w (NormOk (fun a => inS cmC a (spansL (is.map ivP)) ∧ inS cmC a (spansL (js.map ivP))) 40200 w) := by
  obtain ⟨i0, hi0, hz0, hz1, hz2⟩ := info_parts info_interval
  have H := Lib.hid h
  have H' := Lib.hid h'
  have HL := Lib.hid h.sr.ln
  have HL' := Lib.hid h'.sr.ln
  clear h h'
  go_enter Tryd.func25, Tryd.ntmps25
  go_wp2_with fail
  go_loopw [5, 6] (fun v5 v6 wr => ∃ (i : Nat) (gs : List PI), i ≤ n ∧ v6 = .int .i64 i ∧ RmtI w is js i 0 v5 gs wr) (fun _ v6 _ => n - (intOf v6).toNat)
  case atStart => exact ⟨0, [], Nat.zero_le _, rfl, ⟨own_nil _ _ _ _, fun a => ⟨fun h => absurd h (inS_nil a), fun h => h.elim (fun h => absurd h.1 (inS_nil a)) (fun h => absurd h.2 (inS_nil a))⟩, Nat.zero_le _, by simp, Below.refl _ _⟩⟩
  case round =>
    obtain ⟨i, gs, hi, rfl, I⟩ := hrel
    have J := Lib.hid I
    by_cases hlt : i < n
    · obtain ⟨p, hp⟩ : ∃ p, is[i]? = some p := ⟨_, List.getElem?_eq_getElem (by have := HL.out; omega)⟩
      obtain ⟨b, off, rfl, hbl, hat, hok⟩ := H.out.at hp
      have HP := Lib.hid hp
      have HA := Lib.hid hat
      have HOk := Lib.hid hok
      clear hp hat hok I
      go_wp2_with fail
      go_loopw [5, 7] (fun v5 v7 wr => ∃ (k : Nat) (gs : List PI), k ≤ n' ∧ v7 = .int .i64 k ∧ RmtI w is js i k v5 gs wr) (fun _ v7 _ => n' - (intOf v7).toNat)
      case atStart => exact ⟨0, gs, Nat.zero_le _, rfl, J.out⟩
      case round =>
        clear J
        obtain ⟨k, gs2, hk, rfl, I⟩ := hrel
        have J := Lib.hid I
        by_cases hkt : k < n'
        · obtain ⟨q, hq⟩ : ∃ q, js[k]? = some q := ⟨_, List.getElem?_eq_getElem (by have := HL'.out; omega)⟩
          obtain ⟨b', off', rfl, hbl', hat', hok'⟩ := H'.out.at hq
          have HQ := Lib.hid hq
          have HA' := Lib.hid hat'
          have HOk' := Lib.hid hok'
          obtain ⟨⟨x0, x1, x2, x3, x4⟩, ⟨x5, x6, x7, x8, x9⟩, x10, x11⟩ := HA.out.keep (I.bel.block b hbl)
          obtain ⟨⟨y0, y1, y2, y3, y4⟩, ⟨y5, y6, y7, y8, y9⟩, y10, y11⟩ := HA'.out.keep (I.bel.block b' hbl')
          have i0' : (0 : Int) ≤ (k : Int) := by omega
          have i1' : (k : Int) < (n' : Int) := by omega
          have i2' : (0 : Int) ≤ (i : Int) := by omega
          have i3' : (i : Int) < (n : Int) := by omega
          clear hq hat' hok' I
          go_wp2_with fail
          refine (rempty_any p _ (HOk.out.step J.out.bel)).mono ?_
          rintro e w1 ⟨rfl, hb1⟩
          have J1 := Lib.hid (J.out.step hb1)
          clear hb1 x0 x1 x2 x3 x4 x5 x6 x7 x8 x9 x10 x11 y0 y1 y2 y3 y4 y5 y6 y7 y8 y9 y10 y11 J
          cases hne : (ivP p).ne
          · have HI := Lib.hid (J1.out.skip1 HP.out hne)
            clear hne
            go_wp2_with fail
            go_roundw
            case rel => exact ⟨k + 1, gs2, by omega, by go_num, HI.out⟩
            case measure => simp [intOf]; omega
          have HNp := Lib.hid hne
          clear hne
          obtain ⟨⟨y0, y1, y2, y3, y4⟩, ⟨y5, y6, y7, y8, y9⟩, y10, y11⟩ := HA'.out.keep (J1.out.bel.block b' hbl')
          go_wp2_with fail
          refine (rempty_any q _ (HOk'.out.step J1.out.bel)).mono ?_
          rintro e w2 ⟨rfl, hb2⟩
          have J2 := Lib.hid (J1.out.step hb2)
          clear hb2 y0 y1 y2 y3 y4 y5 y6 y7 y8 y9 y10 y11 J1
          cases hne : (ivP q).ne
          · have HI := Lib.hid (J2.out.skip2 HQ.out hne)
            clear hne
            go_wp2_with fail
            go_roundw
            case rel => exact ⟨k + 1, gs2, by omega, by go_num, HI.out⟩
            case measure => simp [intOf]; omega
          have HNq := Lib.hid hne
          clear hne
          go_upto_region 9 with fail
          obtain ⟨⟨x0, x1, x2, x3, x4⟩, ⟨x5, x6, x7, x8, x9⟩, x10, x11⟩ := HA.out.keep (J2.out.bel.block b hbl)
          obtain ⟨⟨y0, y1, y2, y3, y4⟩, ⟨y5, y6, y7, y8, y9⟩, y10, y11⟩ := HA'.out.keep (J2.out.bel.block b' hbl')
          have bw : b < w2.heap.size := by have := J2.out.bel.size; omega
          have bw' : b' < w2.heap.size := by have := J2.out.bel.size; omega
          have KC : Hid (∀ (w' : World), (∀ g, g < w.heap.size → w'.heap[g]? = w2.heap[g]?) → w'.cell? ⟨b, off + i * 12, none⟩ = some (.int .i64 p.1.1.1.k) ∧ w'.cell? ⟨b, off + i * 12 + 1, none⟩ = some (.int .i64 p.1.1.1.n) ∧ w'.cell? ⟨b, off + i * 12 + 2, none⟩ = some (.string p.1.1.1.t) ∧ w'.cell? ⟨b, off + i * 12 + 3, none⟩ = some (.slice p.1.1.1.LA p.1.1.1.ln p.1.1.1.lc) ∧ w'.cell? ⟨b, off + i * 12 + 4, none⟩ = some (.slice p.1.1.1.DA p.1.1.1.dn p.1.1.1.dc) ∧ w'.cell? ⟨b, off + i * 12 + 5, none⟩ = some (.int .i64 p.1.2.1.k) ∧ w'.cell? ⟨b, off + i * 12 + 6, none⟩ = some (.int .i64 p.1.2.1.n) ∧ w'.cell? ⟨b, off + i * 12 + 7, none⟩ = some (.string p.1.2.1.t) ∧ w'.cell? ⟨b, off + i * 12 + 8, none⟩ = some (.slice p.1.2.1.LA p.1.2.1.ln p.1.2.1.lc) ∧ w'.cell? ⟨b, off + i * 12 + 9, none⟩ = some (.slice p.1.2.1.DA p.1.2.1.dn p.1.2.1.dc) ∧ w'.cell? ⟨b, off + i * 12 + 10, none⟩ = some (.bool p.2.1) ∧ w'.cell? ⟨b, off + i * 12 + 11, none⟩ = some (.bool p.2.2) ∧ w'.cell? ⟨b', off' + k * 12, none⟩ = some (.int .i64 q.1.1.1.k) ∧ w'.cell? ⟨b', off' + k * 12 + 1, none⟩ = some (.int .i64 q.1.1.1.n) ∧ w'.cell? ⟨b', off' + k * 12 + 2, none⟩ = some (.string q.1.1.1.t) ∧ w'.cell? ⟨b', off' + k * 12 + 3, none⟩ = some (.slice q.1.1.1.LA q.1.1.1.ln q.1.1.1.lc) ∧ w'.cell? ⟨b', off' + k * 12 + 4, none⟩ = some (.slice q.1.1.1.DA q.1.1.1.dn q.1.1.1.dc) ∧ w'.cell? ⟨b', off' + k * 12 + 5, none⟩ = some (.int .i64 q.1.2.1.k) ∧ w'.cell? ⟨b', off' + k * 12 + 6, none⟩ = some (.int .i64 q.1.2.1.n) ∧ w'.cell? ⟨b', off' + k * 12 + 7, none⟩ = some (.string q.1.2.1.t) ∧ w'.cell? ⟨b', off' + k * 12 + 8, none⟩ = some (.slice q.1.2.1.LA q.1.2.1.ln q.1.2.1.lc) ∧ w'.cell? ⟨b', off' + k * 12 + 9, none⟩ = some (.slice q.1.2.1.DA q.1.2.1.dn q.1.2.1.dc) ∧ w'.cell? ⟨b', off' + k * 12 + 10, none⟩ = some (.bool q.2.1) ∧ w'.cell? ⟨b', off' + k * 12 + 11, none⟩ = some (.bool q.2.2)) := fun w' hk => by
            have e : ∀ o, w'.cell? ⟨b, o, none⟩ = w2.cell? ⟨b, o, none⟩ := fun o => World.cell?_of_block (w := w2) (a := ⟨b, o, none⟩) (hk b hbl)
            have e' : ∀ o, w'.cell? ⟨b', o, none⟩ = w2.cell? ⟨b', o, none⟩ := fun o => World.cell?_of_block (w := w2) (a := ⟨b', o, none⟩) (hk b' hbl')
            exact ⟨(e _).trans x0, (e _).trans x1, (e _).trans x2, (e _).trans x3, (e _).trans x4, (e _).trans x5, (e _).trans x6, (e _).trans x7, (e _).trans x8, (e _).trans x9, (e _).trans x10, (e _).trans x11, (e' _).trans y0, (e' _).trans y1, (e' _).trans y2, (e' _).trans y3, (e' _).trans y4, (e' _).trans y5, (e' _).trans y6, (e' _).trans y7, (e' _).trans y8, (e' _).trans y9, (e' _).trans y10, (e' _).trans y11⟩
          have KS : Hid (∀ w', Below w2.heap.size w2 w' → w'.cell? ⟨b, off + i * 12, none⟩ = some (.int .i64 p.1.1.1.k) ∧ w'.cell? ⟨b, off + i * 12 + 1, none⟩ = some (.int .i64 p.1.1.1.n) ∧ w'.cell? ⟨b, off + i * 12 + 2, none⟩ = some (.string p.1.1.1.t) ∧ w'.cell? ⟨b, off + i * 12 + 3, none⟩ = some (.slice p.1.1.1.LA p.1.1.1.ln p.1.1.1.lc) ∧ w'.cell? ⟨b, off + i * 12 + 4, none⟩ = some (.slice p.1.1.1.DA p.1.1.1.dn p.1.1.1.dc) ∧ w'.cell? ⟨b, off + i * 12 + 5, none⟩ = some (.int .i64 p.1.2.1.k) ∧ w'.cell? ⟨b, off + i * 12 + 6, none⟩ = some (.int .i64 p.1.2.1.n) ∧ w'.cell? ⟨b, off + i * 12 + 7, none⟩ = some (.string p.1.2.1.t) ∧ w'.cell? ⟨b, off + i * 12 + 8, none⟩ = some (.slice p.1.2.1.LA p.1.2.1.ln p.1.2.1.lc) ∧ w'.cell? ⟨b, off + i * 12 + 9, none⟩ = some (.slice p.1.2.1.DA p.1.2.1.dn p.1.2.1.dc) ∧ w'.cell? ⟨b, off + i * 12 + 10, none⟩ = some (.bool p.2.1) ∧ w'.cell? ⟨b, off + i * 12 + 11, none⟩ = some (.bool p.2.2) ∧ w'.cell? ⟨b', off' + k * 12, none⟩ = some (.int .i64 q.1.1.1.k) ∧ w'.cell? ⟨b', off' + k * 12 + 1, none⟩ = some (.int .i64 q.1.1.1.n) ∧ w'.cell? ⟨b', off' + k * 12 + 2, none⟩ = some (.string q.1.1.1.t) ∧ w'.cell? ⟨b', off' + k * 12 + 3, none⟩ = some (.slice q.1.1.1.LA q.1.1.1.ln q.1.1.1.lc) ∧ w'.cell? ⟨b', off' + k * 12 + 4, none⟩ = some (.slice q.1.1.1.DA q.1.1.1.dn q.1.1.1.dc) ∧ w'.cell? ⟨b', off' + k * 12 + 5, none⟩ = some (.int .i64 q.1.2.1.k) ∧ w'.cell? ⟨b', off' + k * 12 + 6, none⟩ = some (.int .i64 q.1.2.1.n) ∧ w'.cell? ⟨b', off' + k * 12 + 7, none⟩ = some (.string q.1.2.1.t) ∧ w'.cell? ⟨b', off' + k * 12 + 8, none⟩ = some (.slice q.1.2.1.LA q.1.2.1.ln q.1.2.1.lc) ∧ w'.cell? ⟨b', off' + k * 12 + 9, none⟩ = some (.slice q.1.2.1.DA q.1.2.1.dn q.1.2.1.dc) ∧ w'.cell? ⟨b', off' + k * 12 + 10, none⟩ = some (.bool q.2.1) ∧ w'.cell? ⟨b', off' + k * 12 + 11, none⟩ = some (.bool q.2.2)) := fun w' hb => KC.out w' fun g hg => hb.block g (by have := J2.out.bel.size; omega)
          obtain ⟨mg, hmg⟩ : ∃ m, m = gs2.length := ⟨_, rfl⟩
          have hown : w2.ownsRow w.heap.size 37 12 u5 mg (flat recI gs2) := by rw [hmg]; exact J2.out.own
          have HOw := Lib.hid hown
          have hle := J2.out.le
          rw [← hmg] at hle
          have HMg := Lib.hid hmg
          have KG : Hid (∀ w' w'' o, Below w2.heap.size w2 w' → (w'.alloc o).grownBy w'' u5.ownBlock → w''.cell? ⟨b, off + i * 12, none⟩ = some (.int .i64 p.1.1.1.k) ∧ w''.cell? ⟨b, off + i * 12 + 1, none⟩ = some (.int .i64 p.1.1.1.n) ∧ w''.cell? ⟨b, off + i * 12 + 2, none⟩ = some (.string p.1.1.1.t) ∧ w''.cell? ⟨b, off + i * 12 + 3, none⟩ = some (.slice p.1.1.1.LA p.1.1.1.ln p.1.1.1.lc) ∧ w''.cell? ⟨b, off + i * 12 + 4, none⟩ = some (.slice p.1.1.1.DA p.1.1.1.dn p.1.1.1.dc) ∧ w''.cell? ⟨b, off + i * 12 + 5, none⟩ = some (.int .i64 p.1.2.1.k) ∧ w''.cell? ⟨b, off + i * 12 + 6, none⟩ = some (.int .i64 p.1.2.1.n) ∧ w''.cell? ⟨b, off + i * 12 + 7, none⟩ = some (.string p.1.2.1.t) ∧ w''.cell? ⟨b, off + i * 12 + 8, none⟩ = some (.slice p.1.2.1.LA p.1.2.1.ln p.1.2.1.lc) ∧ w''.cell? ⟨b, off + i * 12 + 9, none⟩ = some (.slice p.1.2.1.DA p.1.2.1.dn p.1.2.1.dc) ∧ w''.cell? ⟨b, off + i * 12 + 10, none⟩ = some (.bool p.2.1) ∧ w''.cell? ⟨b, off + i * 12 + 11, none⟩ = some (.bool p.2.2) ∧ w''.cell? ⟨b', off' + k * 12, none⟩ = some (.int .i64 q.1.1.1.k) ∧ w''.cell? ⟨b', off' + k * 12 + 1, none⟩ = some (.int .i64 q.1.1.1.n) ∧ w''.cell? ⟨b', off' + k * 12 + 2, none⟩ = some (.string q.1.1.1.t) ∧ w''.cell? ⟨b', off' + k * 12 + 3, none⟩ = some (.slice q.1.1.1.LA q.1.1.1.ln q.1.1.1.lc) ∧ w''.cell? ⟨b', off' + k * 12 + 4, none⟩ = some (.slice q.1.1.1.DA q.1.1.1.dn q.1.1.1.dc) ∧ w''.cell? ⟨b', off' + k * 12 + 5, none⟩ = some (.int .i64 q.1.2.1.k) ∧ w''.cell? ⟨b', off' + k * 12 + 6, none⟩ = some (.int .i64 q.1.2.1.n) ∧ w''.cell? ⟨b', off' + k * 12 + 7, none⟩ = some (.string q.1.2.1.t) ∧ w''.cell? ⟨b', off' + k * 12 + 8, none⟩ = some (.slice q.1.2.1.LA q.1.2.1.ln q.1.2.1.lc) ∧ w''.cell? ⟨b', off' + k * 12 + 9, none⟩ = some (.slice q.1.2.1.DA q.1.2.1.dn q.1.2.1.dc) ∧ w''.cell? ⟨b', off' + k * 12 + 10, none⟩ = some (.bool q.2.1) ∧ w''.cell? ⟨b', off' + k * 12 + 11, none⟩ = some (.bool q.2.2)) := fun w' w'' o hb hg => KC.out w'' fun g hg2 => by
            have hs := J2.out.bel.size
            have hs' := hb.size
            rw [hg.block g (by simp; omega) (fun e => by have := own_ge HOw.out g e.symm; omega), Below.heap_alloc w' o g (by omega)]
            exact hb.block g (by omega)
          have F1 : Hid (mg + 1 ≤ maxLen) := by unfold Hid maxLen; omega
          have F2 : Hid ((mg + 1) * 168 ≤ 140737488355328) := by unfold Hid; omega
          have RP := Lib.hid (HOk.out.step J2.out.bel)
          have RQ := Lib.hid (HOk'.out.step J2.out.bel)
          have hsz := J2.out.bel.size
          have B := Lib.hid ((Below.refl w2.heap.size w2).drewN 1)
          clear x0 x1 x2 x3 x4 x5 x6 x7 x8 x9 x10 x11 y0 y1 y2 y3 y4 y5 y6 y7 y8 y9 y10 y11 hown hmg hle
          go_region_held3 (fun w' => w'.cell? ⟨b, off + i * 12, none⟩ = some (.int .i64 p.1.1.1.k) ∧ w'.cell? ⟨b, off + i * 12 + 1, none⟩ = some (.int .i64 p.1.1.1.n) ∧ w'.cell? ⟨b, off + i * 12 + 2, none⟩ = some (.string p.1.1.1.t) ∧ w'.cell? ⟨b, off + i * 12 + 3, none⟩ = some (.slice p.1.1.1.LA p.1.1.1.ln p.1.1.1.lc) ∧ w'.cell? ⟨b, off + i * 12 + 4, none⟩ = some (.slice p.1.1.1.DA p.1.1.1.dn p.1.1.1.dc) ∧ w'.cell? ⟨b, off + i * 12 + 5, none⟩ = some (.int .i64 p.1.2.1.k) ∧ w'.cell? ⟨b, off + i * 12 + 6, none⟩ = some (.int .i64 p.1.2.1.n) ∧ w'.cell? ⟨b, off + i * 12 + 7, none⟩ = some (.string p.1.2.1.t) ∧ w'.cell? ⟨b, off + i * 12 + 8, none⟩ = some (.slice p.1.2.1.LA p.1.2.1.ln p.1.2.1.lc) ∧ w'.cell? ⟨b, off + i * 12 + 9, none⟩ = some (.slice p.1.2.1.DA p.1.2.1.dn p.1.2.1.dc) ∧ w'.cell? ⟨b, off + i * 12 + 10, none⟩ = some (.bool p.2.1) ∧ w'.cell? ⟨b, off + i * 12 + 11, none⟩ = some (.bool p.2.2) ∧ w'.cell? ⟨b', off' + k * 12, none⟩ = some (.int .i64 q.1.1.1.k) ∧ w'.cell? ⟨b', off' + k * 12 + 1, none⟩ = some (.int .i64 q.1.1.1.n) ∧ w'.cell? ⟨b', off' + k * 12 + 2, none⟩ = some (.string q.1.1.1.t) ∧ w'.cell? ⟨b', off' + k * 12 + 3, none⟩ = some (.slice q.1.1.1.LA q.1.1.1.ln q.1.1.1.lc) ∧ w'.cell? ⟨b', off' + k * 12 + 4, none⟩ = some (.slice q.1.1.1.DA q.1.1.1.dn q.1.1.1.dc) ∧ w'.cell? ⟨b', off' + k * 12 + 5, none⟩ = some (.int .i64 q.1.2.1.k) ∧ w'.cell? ⟨b', off' + k * 12 + 6, none⟩ = some (.int .i64 q.1.2.1.n) ∧ w'.cell? ⟨b', off' + k * 12 + 7, none⟩ = some (.string q.1.2.1.t) ∧ w'.cell? ⟨b', off' + k * 12 + 8, none⟩ = some (.slice q.1.2.1.LA q.1.2.1.ln q.1.2.1.lc) ∧ w'.cell? ⟨b', off' + k * 12 + 9, none⟩ = some (.slice q.1.2.1.DA q.1.2.1.dn q.1.2.1.dc) ∧ w'.cell? ⟨b', off' + k * 12 + 10, none⟩ = some (.bool q.2.1) ∧ w'.cell? ⟨b', off' + k * 12 + 11, none⟩ = some (.bool q.2.2))
            (first | exact KS.out _ B.out | exact KS.out _ (B.out.alloc B.out.size _) | ((try dsimp only); assumption) | go_keep)
            (first
              | (refine step_append_any _ rfl (.tmp 34) (.tmp 44) 22 rfl w.heap.size 37 i0 (aggI (((VC.zero, Val.zero), (VC.zero, Val.zero)), (false, false))) 12 168 Tryd.underlying22 hi0 hz0 hz1 hz2 rfl (by decide) u5 mg (flat recI gs2) (by simp [Act.eval]) ((own_step HOw.out B.out).alloc _) (w4.heap.size + 1) (some ⟨w4.heap.size, 0, none⟩) 1 1 (recI (bothI p q)) (by simp [Act.eval]) ⟨rfl, fun _ => ⟨_, rfl, Nat.lt_succ_self _, news_at _ _ _⟩⟩ (recI_one _) F1.out F2.out (le_alloc (Nat.le_trans hsz B.out.size) _) ?_; intro v' w5 hown hgr hat; have hs := KG.out _ _ _ B.out hgr)
              | (go_at_call 48; refine (rboth_any p q _ (RP.out.step B.out) (RQ.out.step B.out)).mono ?_; rintro e3 w4 ⟨rfl, hb⟩; replace B := Lib.hid (B.out.step' hb); clear hb))
          all_goals
            have HI := Lib.hid (((J2.out.step B.out).step ((Below.refl _ _).alloc (Nat.le_refl _) _)).add HP.out HQ.out HNp.out HNq.out HOk.out HOk'.out hgr (by rw [HMg.out]) hown)
            clear hown hgr hat hs KC KS KG HOw RP RQ B J2 F1 F2 i0' i1' i2' i3'
            go_wp2_with fail
            go_roundw
            case rel => exact ⟨k + 1, gs2 ++ [bothI p q], by omega, by go_num, HI.out⟩
            case measure => simp [intOf]; omega
        · have hkn : k = js.length := by have := HL'.out; omega
          have HI : Hid (RmtI w is js (i + 1) 0 u5 gs2 wr) := by rw [hkn] at I; exact Lib.hid (I.row HP.out (by have := HL'.out; omega))
          clear I J hkn
          go_wp2_with fail
          go_roundw
          case rel => exact ⟨i + 1, gs2, by omega, by go_num, HI.out⟩
          case measure => simp [intOf]; omega
    · have hit : is.take i = is := List.take_of_length_le (by have := HL.out; omega)
      have hle := I.le
      have HMem : Hid (∀ a, inS cmC a (spansL (gs.map ivP)) ↔ inS cmC a (spansL (is.map ivP)) ∧ inS cmC a (spansL (js.map ivP))) := fun a => by
        have := I.mem a
        rw [hit] at this
        exact this.trans ⟨fun h => h.elim id fun h => absurd h.2 (inS_nil a), .inl⟩
      obtain ⟨A2, c2, rfl, hs⟩ := SI.of_own I.own rfl (by unfold reach; omega) (fun x hx => (I.ok x hx).step I.bel)
      obtain ⟨mg, hmg⟩ : ∃ m, m = gs.length := ⟨_, rfl⟩
      rw [← hmg] at hs hle ⊢
      have HS := Lib.hid hs
      have Z := Lib.hid I.bel
      clear hs I J hit hmg
      go_wp2_with fail
      refine (rnormal_any gs A2 mg c2 _ HS.out (by omega)).mono ?_
      rintro e w3 ⟨A3, m3, c3, zs, r, rfl, he, hn3, hm3, hs3, hb3⟩
      have HE := Lib.hid he
      have HN : Hid (IsNF (fun a => inS cmC a (spansL (is.map ivP)) ∧ inS cmC a (spansL (js.map ivP))) r) := ⟨hn3.1, fun a => (hn3.2 a).trans (HMem.out a)⟩
      have HM : Hid (m3 ≤ 40200) := by unfold Hid; omega
      have HS3 := Lib.hid hs3
      have Z3 := Lib.hid (Z.out.step' hb3)
      clear he hn3 hm3 hs3 hb3
      go_wp2_with fail
      go_ret
      exact ⟨A3, m3, c3, zs, r, rfl, HE.out, HN.out, HM.out, HS3.out, Z3.out⟩

end Go.Proofs.YtdmabhbhlnpkgaaDoor
