/- The walk of the law ValueCompares. -/
import Derived.Test.YtckeccfbadlhhaaDoorValAwake
import Derived.Test.YtckeccfbadlhhaaDoorValRefCmp
import Derived.Test.YtckeccfbadlhhaaDoorValOpen
namespace Go.Proofs.YtckeccfbadlhhaaDoor
open Go.RowKit

set_option maxRecDepth 100000 in
set_option maxHeartbeats 2000000 in
theorem valueCompares_walk (c : VC) (x : Val) (d : VC) (y : Val) (w : World) (hT : Tabs w) (h : RW w c x) (h' : RW w d y) :
    Calls Tryd.prog 4 #[c.val, d.val] w fun e w' => e = .returned (.bool true) ∧ Below w.heap.size w w' := by
  have I0 : Hid (CpInv w c d ((w.alloc (Obj.cells c.arr 25)).alloc (Obj.cells d.arr 25))) :=
    Lib.hid ⟨(Blk.new_at rfl).alloc _, Blk.new_at (by simp), ((Below.refl _ _).alloc (Nat.le_refl _) _).alloc (by simp) _⟩
  have H := Lib.hid h
  have H' := Lib.hid h'
  have HT := Lib.hid hT
  clear h h' hT
  go_enter Tryd.func4, Tryd.ntmps4
  go_wp2_with fail
  refine (rcmp_any x y c d _ (H.out.step I0.out.bel) (H'.out.step I0.out.bel)).mono ?_
  rintro e w1 ⟨rfl, hb1⟩
  have I1 := Lib.hid (I0.out.step hb1)
  clear hb1
  obtain ⟨a0, a1, a2, a3, a4⟩ := VAt.of_blk I1.out.b0
  obtain ⟨b0, b1, b2, b3, b4⟩ := VAt.of_blk I1.out.b1
  go_wp2_with fail
  refine (cmp_any x y c d _ (H.out.step I1.out.bel) (H'.out.step I1.out.bel)).mono ?_
  rintro e w2 ⟨rfl, hb2⟩
  have I2 := Lib.hid (I1.out.step hb2)
  clear hb2 a0 a1 a2 a3 a4 b0 b1 b2 b3 b4
  obtain ⟨a0, a1, a2, a3, a4⟩ := VAt.of_blk I2.out.b0
  obtain ⟨b0, b1, b2, b3, b4⟩ := VAt.of_blk I2.out.b1
  go_wp2_with fail
  refine (equal_any x y c d _ (H.out.step I2.out.bel) (H'.out.step I2.out.bel)).mono ?_
  rintro e w3 ⟨rfl, hb3⟩
  have I3 := Lib.hid (I2.out.step hb3)
  clear hb3 a0 a1 a2 a3 a4 b0 b1 b2 b3 b4
  go_wp2_with fail
  refine (awake_any _ (HT.out.step I3.out.bel)).mono ?_
  rintro e w4 ⟨rfl, hb4⟩
  go_wp2_with fail
  go_ret
  exact ⟨rfl, I3.out.bel.step' hb4⟩

end Go.Proofs.YtckeccfbadlhhaaDoor
