/- The walk of the law ValueMeasures. -/
import Derived.Test.YtckeccfbadlhhaaDoorValAwake
import Derived.Test.YtckeccfbadlhhaaDoorValFormed
import Derived.Test.YtckeccfbadlhhaaDoorValOpen
namespace Go.Proofs.YtckeccfbadlhhaaDoor
open Go.RowKit

set_option maxRecDepth 100000 in
set_option maxHeartbeats 2000000 in
theorem valueMeasures_walk (c : VC) (x : Val) (w : World) (hT : Tabs w) (h : RW w c x) : Calls Tryd.prog 3 #[c.val] w fun e w' => e = .returned (.bool true) ∧ Below w.heap.size w w' := by
  have H := Lib.hid (h.alloc (Obj.cells c.arr 25))
  have HT := Lib.hid (hT.alloc (Obj.cells c.arr 25))
  have HB : Hid (Blk (w.alloc (Obj.cells c.arr 25)) w.heap.size 25 c.arr) := Blk.new_at rfl
  have HZ := Lib.hid ((Below.refl w.heap.size w).alloc (Nat.le_refl _) (Obj.cells c.arr 25))
  clear h hT
  go_enter Tryd.func3, Tryd.ntmps3
  go_wp2_with fail
  generalize w.alloc (Obj.cells c.arr 25) = w1 at *
  have E0 : ∀ q : BW w1, q.val.cell? ⟨w.heap.size, 0, none⟩ = some (.int .i64 c.k) := fun q => q.cell (HB.out.cell 0)
  have E1 : ∀ q : BW w1, q.val.cell? ⟨w.heap.size, 1, none⟩ = some (.int .i64 c.n) := fun q => q.cell (HB.out.cell 1)
  have E2 : ∀ q : BW w1, q.val.cell? ⟨w.heap.size, 2, none⟩ = some (.string c.t) := fun q => q.cell (HB.out.cell 2)
  have E3 : ∀ q : BW w1, q.val.cell? ⟨w.heap.size, 3, none⟩ = some (.slice c.LA c.ln c.lc) := fun q => q.cell (HB.out.cell 3)
  have E4 : ∀ q : BW w1, q.val.cell? ⟨w.heap.size, 4, none⟩ = some (.slice c.DA c.dn c.dc) := fun q => q.cell (HB.out.cell 4)
  refine wp_region_bw (by kernel_rfl) (by kernel_rfl) ?_
  repeat (go_big_quiet_step (first | with_reducible exact Calls.bw (valid_any x c _ (HT.out.step (BW.below _)) (H.out.step (BW.below _))) | with_reducible exact Calls.bw (rvalid_any x c _ (H.out.step (BW.below _))) | with_reducible exact Calls.bw (depthV_any x c _ (H.out.step (BW.below _))) | with_reducible exact Calls.bw (rdepthV_any x c _ (H.out.step (BW.below _))) | with_reducible exact Calls.bw (nodesV_any x c _ (H.out.step (BW.below _))) | with_reducible exact Calls.bw (rnodesV_any x c _ (H.out.step (BW.below _))) | with_reducible exact Calls.bw (awake_any _ (HT.out.step (BW.below _)))))
  refine wpQuiet_nil ?_
  rintro _ ⟨kw, rfl⟩
  clear E0 E1 E2 E3 E4
  go_wp2_with fail
  go_ret
  exact ⟨rfl, HZ.out.step' kw.below⟩

end Go.Proofs.YtckeccfbadlhhaaDoor
