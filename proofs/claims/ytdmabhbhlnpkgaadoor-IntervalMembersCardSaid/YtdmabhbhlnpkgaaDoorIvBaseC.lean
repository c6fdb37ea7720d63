/- The contracts of the law's span and awake. · The contract of the law's awake. (Printed by gen_aw24.py.) · A list of intervals that came in, opened. -/
import Derived.Test.YtdmabhbhlnpkgaaDoorIvBaseB
import Derived.Test.YtdmabhbhlnpkgaaDoorKit6
import Derived.Test.YtdmabhbhlnpkgaaDoorValOpen
import Derived.Test.YtdmabhbhlnpkgaaDoorIvRec
namespace Go.Proofs.YtdmabhbhlnpkgaaDoor
open Go.RowKit

theorem putI {w : World} {g : Nat} {t : TypeId} {u : PI} (h : Blk w g t (arrI u)) (v : PI) : Blk (w.setCells g 0 (recI v)) g t (arrI v) := by
  have h1 : Blk w g t (recI u).toArray := h
  have h2 := Blk.setCells (recI v) 0 h1
  rw [setList_eq _ _ _ (by rw [recI_length, recI_length]; omega)] at h2
  rw [recI_length, List.take_zero, List.nil_append, List.drop_of_length_le (by rw [recI_length]; omega), List.append_nil] at h2
  exact h2
theorem below_setCells {B : Nat} {a : World} {g : Nat} (vs : List Value) : ∀ {w : World}, Below B a w → B ≤ g → ∀ o, Below B a (w.setCells g o vs) := by
  induction vs with
  | nil => intro w h _ o; exact h
  | cons v r ih => intro w h hg o; exact ih (h.setCell hg v) hg (o + 1)

set_option maxRecDepth 100000 in
set_option maxHeartbeats 1000000 in
theorem span_any (a b : Int) (li hi : Bool) (w : World) : Calls Tryd.prog 29 #[.int .i64 a, .int .i64 b, .bool li, .bool hi] w fun e w' => e = .returned (aggI (pI a b li hi)) ∧ Below w.heap.size w w' := by
  have A0 := Lib.hid ((Below.refl w.heap.size w).alloc (Nat.le_refl _) (Obj.cells (arrI (((VC.zero, Val.zero), (VC.zero, Val.zero)), (false, false))) 37))
  have B0 : Hid (Blk (w.alloc (Obj.cells (arrI (((VC.zero, Val.zero), (VC.zero, Val.zero)), (false, false))) 37)) w.heap.size 37 (arrI (((VC.zero, Val.zero), (VC.zero, Val.zero)), (false, false)))) := Blk.new_at rfl
  go_enter Tryd.func29, Tryd.ntmps29
  go_wp2_with fail
  refine (rint_any a _).mono ?_
  rintro e w1 ⟨rfl, hb1⟩
  have A1 := Lib.hid (A0.out.step' hb1)
  have B1 := Lib.hid (B0.out.step hb1)
  clear hb1 A0 B0
  go_wp2_with fail
  refine (rint_any b _).mono ?_
  rintro e w2 ⟨rfl, hb2⟩
  have A2 := Lib.hid (A1.out.step' hb2)
  have B2 := Lib.hid (B1.out.step hb2)
  clear hb2 A1 B1
  obtain ⟨⟨q0, q1, q2, q3, q4⟩, ⟨r0, r1, r2, r3, r4⟩, s0, s1⟩ := IAt.of_blk B2.out
  have z := B2.out.frozen
  go_wp2_with fail
  have hB := putI B2.out (pI a b li hi)
  obtain ⟨W, hW, HB⟩ : ∃ W, w2.setCells w.heap.size 0 (recI (pI a b li hi)) = W ∧ Hid (Blk W w.heap.size 37 (arrI (pI a b li hi))) := ⟨_, rfl, Lib.hid hB⟩
  have HBe : Hid (Below w.heap.size w W) := by rw [Hid, ← hW]; exact below_setCells _ A2.out (Nat.le_refl _) _
  simp only [recI, recV, VC.list, List.cons_append, List.nil_append, World.setCells, Nat.zero_add, Nat.reduceAdd] at hW
  rw [hW]
  exact bodyPost_ret (results_iv rfl _ w.heap.size 0 rfl _ (pI a b li hi) (IAt.of_blk HB.out)) rfl ⟨rfl, HBe.out⟩

end Go.Proofs.YtdmabhbhlnpkgaaDoor

namespace Go.Proofs.YtdmabhbhlnpkgaaDoor
open Go.RowKit

theorem sl_list {w : World} {g n : Nat} {ps : List PV} (h : Blk w g 30 (flat recV ps).toArray) (hn : n = ps.length) (hz : n * 80 ≤ reach) (hok : ∀ p ∈ ps, RW w p.1 p.2) : SL (fun _ => True) w (some ⟨g, 0, none⟩) n n ps := by
  refine ⟨⟨hn, Nat.le_refl _, fun _ => ⟨g, 0, rfl, h.lt, fun i a hi j v hj => ?_⟩⟩, hz, fun _ => ⟨_, _, rfl, trivial⟩, hok⟩
  rw [Nat.zero_add, h.cell, List.getElem?_toArray]
  exact flat_get recV_length hi hj

set_option maxRecDepth 100000 in
set_option maxHeartbeats 1000000 in
theorem awake24_any (w : World) (hT : Tabs w) : Calls Tryd.prog 11 #[] w fun e w' => e = .returned (.bool true) ∧ Below w.heap.size w w' := by
  have HT := Lib.hid hT
  clear hT
  have Z := Lib.hid (Below.refl w.heap.size w)
  go_enter Tryd.func11, Tryd.ntmps11
  go_wp2_with fail
  refine (span_any 2 3 true true _).mono ?_
  rintro e w1 ⟨rfl, hb⟩
  have hb' : Below w.heap.size w w1 := hb
  clear hb
  replace Z := Lib.hid (Z.out.step' hb')
  clear hb'
  go_wp2_with fail
  refine (span_any 1 2 true false _).mono ?_
  rintro e w2 ⟨rfl, hb⟩
  have hb' : Below w1.heap.size w1 w2 := hb
  clear hb
  replace Z := Lib.hid (Z.out.step' hb')
  clear hb'
  go_wp2_with fail
  refine (normal_any [pI 2 3 true true, pI 1 2 true false] _ 2 2 _ (HT.out.step (Z.out.alloc Z.out.size _)) (si_list (ps := [pI 2 3 true true, pI 1 2 true false]) (Blk.new_at rfl) rfl (by decide) (by intro p hp; simp only [List.mem_cons, List.not_mem_nil, or_false] at hp; rcases hp with rfl | rfl; all_goals exact okI_int _ _ _ _)) (by omega)).mono ?_
  rintro e w3 ⟨A1, m1, c1, ys1, n1, rfl, hy, hn, _, hs, hb⟩
  have hb' : Below w2.heap.size w2 w3 := ((Below.refl w2.heap.size w2).alloc (Nat.le_refl _) (Obj.cells (flat recI [pI 2 3 true true, pI 1 2 true false]).toArray 37)).step' hb
  clear hb
  replace Z := Lib.hid (Z.out.step' hb')
  clear hb'
  have E1 : Hid (ys1.map ivP = [pI 1 3 true true].map ivP) := by rw [Hid, hy, hn.unique aw_normal (fun a _ => Iff.rfl)]; rfl
  have S1 := Lib.hid hs
  have B1 := Lib.hid (Below.refl w3.heap.size w3)
  clear hy hn hs
  go_wp2_with fail
  refine (span_any 1 5 true true _).mono ?_
  rintro e w4 ⟨rfl, hb⟩
  have hb' : Below w3.heap.size w3 w4 := hb
  clear hb
  replace Z := Lib.hid (Z.out.step' hb')
  replace B1 := Lib.hid (B1.out.step' hb')
  clear hb'
  have K0 : Hid (Blk (w4.alloc (Obj.cells (flat recI [pI 1 5 true true]).toArray 37)) w4.heap.size 37 (flat recI [pI 1 5 true true]).toArray) := Blk.new_at rfl
  obtain ⟨gx, hgx⟩ : ∃ g, g = w4.heap.size := ⟨_, rfl⟩
  rw [← hgx] at K0
  have HGX := Lib.hid hgx
  clear hgx
  go_wp2_with fail
  refine (span_any 3 9 false true _).mono ?_
  rintro e w5 ⟨rfl, hb⟩
  replace K0 := Lib.hid (K0.out.step hb)
  have hb' : Below w4.heap.size w4 w5 := ((Below.refl w4.heap.size w4).alloc (Nat.le_refl _) (Obj.cells (flat recI [pI 1 5 true true]).toArray 37)).step' hb
  clear hb
  replace Z := Lib.hid (Z.out.step' hb')
  replace B1 := Lib.hid (B1.out.step' hb')
  clear hb'
  rw [← HGX.out]
  go_wp2_with fail
  refine (meet_any [pI 1 5 true true] [pI 3 9 false true] (some ⟨gx, 0, none⟩) _ 1 1 1 1 _ (HT.out.step (Z.out.alloc Z.out.size _)) (si_list (ps := [pI 1 5 true true]) (K0.out.alloc _) rfl (by decide) (by intro p hp; simp only [List.mem_cons, List.not_mem_nil, or_false] at hp; subst hp; exact okI_int _ _ _ _)) (si_list (ps := [pI 3 9 false true]) (Blk.new_at rfl) rfl (by decide) (by intro p hp; simp only [List.mem_cons, List.not_mem_nil, or_false] at hp; subst hp; exact okI_int _ _ _ _)) (by omega) (by omega)).mono ?_
  rintro e w6 ⟨A2, m2, c2, ys2, n2, rfl, hy, hn, _, hs, hb⟩
  have hb' : Below w5.heap.size w5 w6 := ((Below.refl w5.heap.size w5).alloc (Nat.le_refl _) (Obj.cells (flat recI [pI 3 9 false true]).toArray 37)).step' hb
  clear hb
  replace Z := Lib.hid (Z.out.step' hb')
  replace B1 := Lib.hid (B1.out.step' hb')
  clear hb'
  have E2 : Hid (ys2.map ivP = [pI 3 5 false true].map ivP) := by rw [Hid, hy, hn.unique aw_meet (fun a _ => Iff.rfl)]; rfl
  have S2 := Lib.hid hs
  have B2 := Lib.hid (Below.refl w6.heap.size w6)
  clear hy hn hs
  go_wp2_with fail
  refine (rint_any 2 _).mono ?_
  rintro e w7 ⟨rfl, hb⟩
  have hb' : Below w6.heap.size w6 w7 := hb
  clear hb
  replace Z := Lib.hid (Z.out.step' hb')
  replace B1 := Lib.hid (B1.out.step' hb')
  replace B2 := Lib.hid (B2.out.step' hb')
  clear hb'
  go_wp2_with fail
  refine (rint_any 1 _).mono ?_
  rintro e w8 ⟨rfl, hb⟩
  have hb' : Below w7.heap.size w7 w8 := hb
  clear hb
  replace Z := Lib.hid (Z.out.step' hb')
  replace B1 := Lib.hid (B1.out.step' hb')
  replace B2 := Lib.hid (B2.out.step' hb')
  clear hb'
  go_wp2_with fail
  refine (rint_any 2 _).mono ?_
  rintro e w9 ⟨rfl, hb⟩
  have hb' : Below w8.heap.size w8 w9 := hb
  clear hb
  replace Z := Lib.hid (Z.out.step' hb')
  replace B1 := Lib.hid (B1.out.step' hb')
  replace B2 := Lib.hid (B2.out.step' hb')
  clear hb'
  go_wp2_with fail
  refine (points_any [(cI 2, vI 2), (cI 1, vI 1), (cI 2, vI 2)] _ 3 3 _ (HT.out.step (Z.out.alloc Z.out.size _)) (sl_list (Blk.new_at rfl) rfl (by decide) (by intro p hp; simp only [List.mem_cons, List.not_mem_nil, or_false] at hp; rcases hp with rfl | rfl | rfl; all_goals exact rw_int _ _)) (by omega)).mono ?_
  rintro e w10 ⟨A3, m3, c3, ys3, n3, rfl, hy, hn, _, hs, hb⟩
  have hb' : Below w9.heap.size w9 w10 := ((Below.refl w9.heap.size w9).alloc (Nat.le_refl _) (Obj.cells (flat recV [(cI 2, vI 2), (cI 1, vI 1), (cI 2, vI 2)]).toArray 30)).step' hb
  clear hb
  replace Z := Lib.hid (Z.out.step' hb')
  replace B1 := Lib.hid (B1.out.step' hb')
  replace B2 := Lib.hid (B2.out.step' hb')
  clear hb'
  have E3 : Hid (ys3.map ivP = [pI 1 1 true true, pI 2 2 true true].map ivP) := by rw [Hid, hy, hn.unique aw_points (fun a _ => Iff.rfl)]; rfl
  have S3 := Lib.hid hs
  have B3 := Lib.hid (Below.refl w10.heap.size w10)
  clear hy hn hs
  go_wp2_with fail
  refine (rint_any 3 _).mono ?_
  rintro e w11 ⟨rfl, hb⟩
  have hb' : Below w10.heap.size w10 w11 := hb
  clear hb
  replace Z := Lib.hid (Z.out.step' hb')
  replace B1 := Lib.hid (B1.out.step' hb')
  replace B2 := Lib.hid (B2.out.step' hb')
  replace B3 := Lib.hid (B3.out.step' hb')
  clear hb'
  go_wp2_with fail
  refine (rest_any [(((cMin, vMin), (cI 3, vI 3)), (true, false))] _ 1 1 _ (HT.out.step (Z.out.alloc Z.out.size _)) (si_list (ps := [(((cMin, vMin), (cI 3, vI 3)), (true, false))]) (Blk.new_at rfl) rfl (by decide) (by intro p hp; simp only [List.mem_cons, List.not_mem_nil, or_false] at hp; subst hp; exact ⟨rw_min _, rw_int _ _⟩)) (by omega)).mono ?_
  rintro e w12 ⟨A4, m4, c4, ys4, n4, rfl, hy, hn, _, hs, hb⟩
  have hb' : Below w11.heap.size w11 w12 := ((Below.refl w11.heap.size w11).alloc (Nat.le_refl _) (Obj.cells (flat recI [(((cMin, vMin), (cI 3, vI 3)), (true, false))]).toArray 37)).step' hb
  clear hb
  replace Z := Lib.hid (Z.out.step' hb')
  replace B1 := Lib.hid (B1.out.step' hb')
  replace B2 := Lib.hid (B2.out.step' hb')
  replace B3 := Lib.hid (B3.out.step' hb')
  clear hb'
  have E4 : Hid (ys4.map ivP = [(((cI 3, vI 3), (cMax, vMax)), (true, true))].map ivP) := by rw [Hid, hy, hn.unique aw_rest (fun a _ => Iff.rfl)]; rfl
  have S4 := Lib.hid hs
  have B4 := Lib.hid (Below.refl w12.heap.size w12)
  clear hy hn hs
  go_wp2_with fail
  refine (span_any 1 3 true true _).mono ?_
  rintro e w13 ⟨rfl, hb⟩
  have hb' : Below w12.heap.size w12 w13 := hb
  clear hb
  replace Z := Lib.hid (Z.out.step' hb')
  replace B1 := Lib.hid (B1.out.step' hb')
  replace B2 := Lib.hid (B2.out.step' hb')
  replace B3 := Lib.hid (B3.out.step' hb')
  replace B4 := Lib.hid (B4.out.step' hb')
  clear hb'
  go_wp2_with fail
  refine (same24_eq ys1 [pI 1 3 true true] _ _ _ 1 _ 1 _ (S1.out.step (B1.out.alloc B1.out.size _)) (si_list (ps := [pI 1 3 true true]) (Blk.new_at rfl) rfl (by decide) (by intro p hp; simp only [List.mem_cons, List.not_mem_nil, or_false] at hp; subst hp; exact okI_int _ _ _ _)) E1.out).mono ?_
  rintro e w14 ⟨rfl, hb⟩
  have hb' : Below w13.heap.size w13 w14 := ((Below.refl w13.heap.size w13).alloc (Nat.le_refl _) (Obj.cells (flat recI [pI 1 3 true true]).toArray 37)).step' hb
  clear hb
  replace Z := Lib.hid (Z.out.step' hb')
  replace B1 := Lib.hid (B1.out.step' hb')
  replace B2 := Lib.hid (B2.out.step' hb')
  replace B3 := Lib.hid (B3.out.step' hb')
  replace B4 := Lib.hid (B4.out.step' hb')
  clear hb'
  go_wp2_with fail
  refine (span_any 3 5 false true _).mono ?_
  rintro e w15 ⟨rfl, hb⟩
  have hb' : Below w14.heap.size w14 w15 := hb
  clear hb
  replace Z := Lib.hid (Z.out.step' hb')
  replace B1 := Lib.hid (B1.out.step' hb')
  replace B2 := Lib.hid (B2.out.step' hb')
  replace B3 := Lib.hid (B3.out.step' hb')
  replace B4 := Lib.hid (B4.out.step' hb')
  clear hb'
  go_wp2_with fail
  refine (same24_eq ys2 [pI 3 5 false true] _ _ _ 1 _ 1 _ (S2.out.step (B2.out.alloc B2.out.size _)) (si_list (ps := [pI 3 5 false true]) (Blk.new_at rfl) rfl (by decide) (by intro p hp; simp only [List.mem_cons, List.not_mem_nil, or_false] at hp; subst hp; exact okI_int _ _ _ _)) E2.out).mono ?_
  rintro e w16 ⟨rfl, hb⟩
  have hb' : Below w15.heap.size w15 w16 := ((Below.refl w15.heap.size w15).alloc (Nat.le_refl _) (Obj.cells (flat recI [pI 3 5 false true]).toArray 37)).step' hb
  clear hb
  replace Z := Lib.hid (Z.out.step' hb')
  replace B1 := Lib.hid (B1.out.step' hb')
  replace B2 := Lib.hid (B2.out.step' hb')
  replace B3 := Lib.hid (B3.out.step' hb')
  replace B4 := Lib.hid (B4.out.step' hb')
  clear hb'
  go_wp2_with fail
  refine (span_any 1 1 true true _).mono ?_
  rintro e w17 ⟨rfl, hb⟩
  have hb' : Below w16.heap.size w16 w17 := hb
  clear hb
  replace Z := Lib.hid (Z.out.step' hb')
  replace B1 := Lib.hid (B1.out.step' hb')
  replace B2 := Lib.hid (B2.out.step' hb')
  replace B3 := Lib.hid (B3.out.step' hb')
  replace B4 := Lib.hid (B4.out.step' hb')
  clear hb'
  go_wp2_with fail
  refine (span_any 2 2 true true _).mono ?_
  rintro e w18 ⟨rfl, hb⟩
  have hb' : Below w17.heap.size w17 w18 := hb
  clear hb
  replace Z := Lib.hid (Z.out.step' hb')
  replace B1 := Lib.hid (B1.out.step' hb')
  replace B2 := Lib.hid (B2.out.step' hb')
  replace B3 := Lib.hid (B3.out.step' hb')
  replace B4 := Lib.hid (B4.out.step' hb')
  clear hb'
  go_wp2_with fail
  refine (same24_eq ys3 [pI 1 1 true true, pI 2 2 true true] _ _ _ 2 _ 2 _ (S3.out.step (B3.out.alloc B3.out.size _)) (si_list (ps := [pI 1 1 true true, pI 2 2 true true]) (Blk.new_at rfl) rfl (by decide) (by intro p hp; simp only [List.mem_cons, List.not_mem_nil, or_false] at hp; rcases hp with rfl | rfl; all_goals exact okI_int _ _ _ _)) E3.out).mono ?_
  rintro e w19 ⟨rfl, hb⟩
  have hb' : Below w18.heap.size w18 w19 := ((Below.refl w18.heap.size w18).alloc (Nat.le_refl _) (Obj.cells (flat recI [pI 1 1 true true, pI 2 2 true true]).toArray 37)).step' hb
  clear hb
  replace Z := Lib.hid (Z.out.step' hb')
  replace B1 := Lib.hid (B1.out.step' hb')
  replace B2 := Lib.hid (B2.out.step' hb')
  replace B3 := Lib.hid (B3.out.step' hb')
  replace B4 := Lib.hid (B4.out.step' hb')
  clear hb'
  go_wp2_with fail
  refine (rint_any 3 _).mono ?_
  rintro e w20 ⟨rfl, hb⟩
  have hb' : Below w19.heap.size w19 w20 := hb
  clear hb
  replace Z := Lib.hid (Z.out.step' hb')
  replace B1 := Lib.hid (B1.out.step' hb')
  replace B2 := Lib.hid (B2.out.step' hb')
  replace B3 := Lib.hid (B3.out.step' hb')
  replace B4 := Lib.hid (B4.out.step' hb')
  clear hb'
  go_wp2_with fail
  refine (same24_eq ys4 [(((cI 3, vI 3), (cMax, vMax)), (true, true))] _ _ _ 1 _ 1 _ (S4.out.step (B4.out.alloc B4.out.size _)) (si_list (ps := [(((cI 3, vI 3), (cMax, vMax)), (true, true))]) (Blk.new_at rfl) rfl (by decide) (by intro p hp; simp only [List.mem_cons, List.not_mem_nil, or_false] at hp; subst hp; exact ⟨rw_int _ _, rw_max _⟩)) E4.out).mono ?_
  rintro e w21 ⟨rfl, hb⟩
  have hb' : Below w20.heap.size w20 w21 := ((Below.refl w20.heap.size w20).alloc (Nat.le_refl _) (Obj.cells (flat recI [(((cI 3, vI 3), (cMax, vMax)), (true, true))]).toArray 37)).step' hb
  clear hb
  replace Z := Lib.hid (Z.out.step' hb')
  replace B1 := Lib.hid (B1.out.step' hb')
  replace B2 := Lib.hid (B2.out.step' hb')
  replace B3 := Lib.hid (B3.out.step' hb')
  replace B4 := Lib.hid (B4.out.step' hb')
  clear hb'
  go_wp2_with fail
  refine (span_any 1 2 false true _).mono ?_
  rintro e w22 ⟨rfl, hb⟩
  have hb' : Below w21.heap.size w21 w22 := hb
  clear hb
  replace Z := Lib.hid (Z.out.step' hb')
  replace B1 := Lib.hid (B1.out.step' hb')
  replace B2 := Lib.hid (B2.out.step' hb')
  replace B3 := Lib.hid (B3.out.step' hb')
  replace B4 := Lib.hid (B4.out.step' hb')
  clear hb'
  have K9 : Hid (Blk (w22.alloc (Obj.cells (flat recI [pI 1 2 false true]).toArray 37)) w22.heap.size 37 (flat recI [pI 1 2 false true]).toArray) := Blk.new_at rfl
  obtain ⟨gz, hgz⟩ : ∃ g, g = w22.heap.size := ⟨_, rfl⟩
  rw [← hgz] at K9
  have HGZ := Lib.hid hgz
  clear hgz
  go_wp2_with fail
  refine (rint_any 1 _).mono ?_
  rintro e w23 ⟨rfl, hb⟩
  replace K9 := Lib.hid (K9.out.step hb)
  have hb' : Below w22.heap.size w22 w23 := ((Below.refl w22.heap.size w22).alloc (Nat.le_refl _) (Obj.cells (flat recI [pI 1 2 false true]).toArray 37)).step' hb
  clear hb
  replace Z := Lib.hid (Z.out.step' hb')
  replace B1 := Lib.hid (B1.out.step' hb')
  replace B2 := Lib.hid (B2.out.step' hb')
  replace B3 := Lib.hid (B3.out.step' hb')
  replace B4 := Lib.hid (B4.out.step' hb')
  clear hb'
  rw [← HGZ.out]
  go_wp2_with fail
  refine (has_any [pI 1 2 false true] (some ⟨gz, 0, none⟩) 1 1 (vI 1) (cI 1) _ (HT.out.step Z.out) (si_list (ps := [pI 1 2 false true]) K9.out rfl (by decide) (by intro p hp; simp only [List.mem_cons, List.not_mem_nil, or_false] at hp; subst hp; exact okI_int _ _ _ _)) (by omega) (rw_int _ _)).mono ?_
  rintro e w24 ⟨rfl, hb⟩
  have hb' : Below w23.heap.size w23 w24 := hb
  clear hb
  replace Z := Lib.hid (Z.out.step' hb')
  replace B1 := Lib.hid (B1.out.step' hb')
  replace B2 := Lib.hid (B2.out.step' hb')
  replace B3 := Lib.hid (B3.out.step' hb')
  replace B4 := Lib.hid (B4.out.step' hb')
  clear hb'
  rw [show hasV ([pI 1 2 false true].map ivP) (vI 1) = false from aw_has]
  go_wp2_with fail
  refine (all_any _).mono ?_
  rintro e w25 ⟨A5, m5, c5, ys5, n5, rfl, hy5, hn5, _, hs5, hb⟩
  have hb' : Below w24.heap.size w24 w25 := hb
  clear hb
  replace Z := Lib.hid (Z.out.step' hb')
  replace B1 := Lib.hid (B1.out.step' hb')
  replace B2 := Lib.hid (B2.out.step' hb')
  replace B3 := Lib.hid (B3.out.step' hb')
  replace B4 := Lib.hid (B4.out.step' hb')
  clear hb'
  go_wp2_with fail
  refine (rall_any _).mono ?_
  rintro e w26 ⟨A6, m6, c6, ys6, n6, rfl, hy6, hn6, _, hs6, hb⟩
  replace hs5 := hs5.step hb
  have hb' : Below w25.heap.size w25 w26 := hb
  clear hb
  replace Z := Lib.hid (Z.out.step' hb')
  replace B1 := Lib.hid (B1.out.step' hb')
  replace B2 := Lib.hid (B2.out.step' hb')
  replace B3 := Lib.hid (B3.out.step' hb')
  replace B4 := Lib.hid (B4.out.step' hb')
  clear hb'
  go_wp2_with fail
  refine (same24_eq ys5 ys6 _ _ _ _ _ _ _ hs5 hs6 (norm_same hy5 hy6 hn5 hn6 (fun a _ => Iff.rfl))).mono ?_
  rintro e w27 ⟨rfl, hb⟩
  have hb' : Below w26.heap.size w26 w27 := hb
  clear hb
  replace Z := Lib.hid (Z.out.step' hb')
  replace B1 := Lib.hid (B1.out.step' hb')
  replace B2 := Lib.hid (B2.out.step' hb')
  replace B3 := Lib.hid (B3.out.step' hb')
  replace B4 := Lib.hid (B4.out.step' hb')
  clear hb'
  go_wp2_with fail
  go_ret
  exact ⟨rfl, Z.out⟩

end Go.Proofs.YtdmabhbhlnpkgaaDoor

namespace Go.Proofs.YtdmabhbhlnpkgaaDoor
open Go.ChangeShapes Go.WideShapes Go.ChangeAt Go.RowKit Go.Joins Go.Deep

theorem bytes_interval : Tryd.prog.bytesOf 37 = 168 := by kernel_rfl
theorem cells_interval : Tryd.prog.cellsOf 37 = 12 := by kernel_rfl
theorem cells_bool : Tryd.prog.cellsOf 4 = 1 := by kernel_rfl
theorem four {α : Type} {l : List α} (h : l.length = 4) : ∃ a b c d, l = [a, b, c, d] := by
  match l, h with
  | [a, b, c, d], _ => exact ⟨a, b, c, d, rfl⟩
theorem twelve {α : Type} {l : List α} (h : l.length = 12) : ∃ a b c d e f g h i j k m, l = [a, b, c, d, e, f, g, h, i, j, k, m] := by
  match l, h with
  | [a, b, c, d, e, f, g, h, i, j, k, m], _ => exact ⟨a, b, c, d, e, f, g, h, i, j, k, m, rfl⟩

section
variable {H : Type} {enc : TypeId × Value → H} {W : World} {base : Nat} {spare : Nat → Bool} {held : Bool}
theorem read_iv (n : Nat) (cs : List Value) (y : DataW H × List MemPlace) (h : DataW.trod enc Tryd.prog W base spare held n 37 cs = some y) (hw : Light 37 y.1) : ∃ p : PI, cs = recI p ∧ okI W p := by
  obtain ⟨ys, n', rfl, rfl, hcl, hyl, hf⟩ := DataW.trod_struct Tryd.underlying37 h
  rw [cells_interval] at hcl
  obtain ⟨v0, v1, v2, v3, v4, v5, v6, v7, v8, v9, v10, v11, rfl⟩ := twelve hcl
  obtain ⟨y0, y1, y2, y3, rfl⟩ := four hyl
  have f0 : DataW.trod enc Tryd.prog W base spare held n' 30 [v0, v1, v2, v3, v4] = some y0 := by simpa [cells_value] using hf 0 _ rfl
  have f1 : DataW.trod enc Tryd.prog W base spare held n' 30 [v5, v6, v7, v8, v9] = some y1 := by simpa [cells_value] using hf 1 _ rfl
  have f2 : DataW.trod enc Tryd.prog W base spare held n' 4 [v10] = some y2 := by simpa [cells_bool, cells_value] using hf 2 _ rfl
  have f3 : DataW.trod enc Tryd.prog W base spare held n' 4 [v11] = some y3 := by simpa [cells_bool, cells_value] using hf 3 _ rfl
  obtain ⟨b0, e2, rfl⟩ := DataW.trod_bool Tryd.underlying4 f2
  obtain ⟨b1, e3, rfl⟩ := DataW.trod_bool Tryd.underlying4 f3
  simp only [List.cons.injEq, and_true] at e2 e3
  subst e2 e3
  have hw' : Light 30 y0.1 ∧ Light 30 y1.1 := by
    simp only [Light, DataW.weights, Tryd.underlying37, List.map, DataW.weightsEach, List.mem_append] at hw
    exact ⟨fun z hz => hw z (.inl hz), fun z hz => hw z (.inr (.inl hz))⟩
  obtain ⟨c0, x0, e0, r0⟩ := read_value n' _ _ f0 hw'.1
  obtain ⟨c1, x1, e1, r1⟩ := read_value n' _ _ f1 hw'.2
  refine ⟨(((c0, x0), (c1, x1)), (b0, b1)), ?_, r0, r1⟩
  have : [v0, v1, v2, v3, v4, v5, v6, v7, v8, v9, Value.bool b0, Value.bool b1] = [v0, v1, v2, v3, v4] ++ [v5, v6, v7, v8, v9] ++ [Value.bool b0, Value.bool b1] := rfl
  rw [this, e0, e1]
  rfl
theorem read_ivs (n : Nat) {v : Value} {y : DataW H × List MemPlace} (h : DataW.trod enc Tryd.prog W base spare held n 22 [v] = some y) (hw : Light 22 y.1) :
    ∃ (A : Option Addr) (n c : Nat) (ps : List PI), v = .slice A n c ∧ SI W A n c ps := by
  rcases DataW.trod_slice Tryd.underlying22 h with ⟨hcs, _⟩ | ⟨a, len, cap, elems, rest, n', rfl, hcs, rfl, _, hlc, hcm, hel, hat, _, _⟩
  · simp at hcs
    exact ⟨none, 0, 0, [], hcs, SR.nil, by decide, by simp⟩
  · simp at hcs
    subst hcs
    simp only [Light, DataW.weights, Tryd.underlying22, List.mem_cons, List.mem_append, bytes_interval] at hw
    have hsz : len * 168 ≤ reach := by
      have := hw _ (.inl rfl)
      simp only [List.length_map, hel] at this
      have h2 : len * 168 ≤ (len + rest.length) * 168 := Nat.mul_le_mul_right _ (by omega)
      have := le_reach
      omega
    have wl := light_all (l := elems.map (·.1)) (fun z hz => hw z (.inr (.inl hz)))
    rcases Nat.eq_zero_or_pos len with h0 | hp
    · subst h0
      exact ⟨some a, 0, cap, [], rfl, ⟨rfl, hlc, fun h => absurd h (by omega)⟩, hsz, by simp⟩
    have step : ∀ i, i < len → ∃ cs', W.cells? base (a.add (i * 12)) 12 = some cs' ∧ ∃ p : PI, cs' = recI p ∧ okI W p := by
      intro i hi
      have h1 := hat i hi
      rw [cells_interval, List.getElem?_eq_getElem (by omega)] at h1
      obtain ⟨cs', hcs', ht'⟩ := Option.bind_eq_some_iff.1 h1
      exact ⟨cs', hcs', read_iv n' cs' _ ht' (wl _ (List.mem_map_of_mem (List.getElem_mem _)))⟩
    obtain ⟨cs0, h0, _⟩ := step 0 hp
    obtain ⟨b, off, ha, _⟩ := cells_at h0 (by omega)
    have ha' : a = ⟨b, off, none⟩ := by simpa [Addr.add] using ha
    subst ha'
    obtain ⟨f, hf⟩ := choose_fn (p := fun i (q : PI) => (∀ (j : Nat) (v : Value), (recI q)[j]? = some v → W.cell? ⟨b, off + i * 12 + j, none⟩ = some v) ∧ okI W q) (((VC.zero, Val.zero), (VC.zero, Val.zero)), (false, false)) len (fun i hi => by
      obtain ⟨cs', hcs', q, rfl, hq⟩ := step i hi
      rw [addr_add] at hcs'
      obtain ⟨b', off', ha', hc⟩ := cells_at hcs' (by omega)
      injection ha' with e1 e2
      subst e1 e2
      refine ⟨q, fun j v hj => ?_, hq⟩
      have hj12 := (List.getElem?_eq_some_iff.1 hj).1
      rw [recI_length] at hj12
      rw [hc j hj12, hj])
    have hb : b < W.heap.size := World.block_lt_of_cell? W ⟨b, off + 0 * 12 + 0, none⟩ ((hf 0 hp).1 0 _ rfl)
    refine ⟨_, len, cap, (List.range len).map f, rfl, ⟨by simp, hlc, fun _ => ⟨b, off, rfl, hb, fun i a hi j v hj => ?_⟩⟩, hsz, fun x hx => ?_⟩
    · have hlt : i < len := by have := (List.getElem?_eq_some_iff.1 hi).1; simpa using this
      rw [List.getElem?_map, List.getElem?_range hlt] at hi
      simp only [Option.map_some, Option.some.injEq] at hi
      subst hi
      exact (hf i hlt).1 j v hj
    · obtain ⟨i, hi, rfl⟩ := List.mem_map.1 hx
      exact (hf i (List.mem_range.1 hi)).2
theorem open_intervals {r : Reach} {b0 : Nat} {v : Value} {d : DataW H} {p : List MemPlace} (hv : Value.okWide Tryd.prog W r b0 22 v) (h : DataW.Trod enc Tryd.prog W base spare held 22 v d p) (hw : Light 22 d) :
    ∃ (A : Option Addr) (n c : Nat) (ps : List PI), v = .slice A n c ∧ SI W A n c ps := by
  obtain ⟨A, len0, cap0, rfl⟩ := okWide_slice Tryd.underlying22 hv
  obtain ⟨fuel, hf⟩ := h
  exact read_ivs fuel hf hw
end
end Go.Proofs.YtdmabhbhlnpkgaaDoor
