/- Nodes and Depth of the program. -/
import Derived.Test.YtgcklgkhdokchaaDoorValEach
namespace Go.Proofs.YtgcklgkhdokchaaDoor
open Go.RowKit

def nodesV (x : Val) : Int := nodesI x 1025
def depthV (x : Val) : Int := depthI x 17
theorem nodesV_any (x : Val) (c : VC) (w : World) (h : RW w c x) : Calls Tryd.prog 75 #[c.val] w fun e w' => e = .returned (.int .i64 (nodesV x)) ∧ Below w.heap.size w w' := by
  have H := Lib.hid h
  clear h
  go_enter Tryd.func75, Tryd.ntmps75
  go_wp2_with fail
  refine (nodes_any x c 1025 _ (H.out.alloc _) (by omega) (by omega)).mono ?_
  rintro e w1 ⟨rfl, hb⟩
  go_wp2_with fail
  go_ret
  exact ⟨rfl, ((Below.refl _ _).alloc (Nat.le_refl _) _).step' hb⟩
theorem depthV_any (x : Val) (c : VC) (w : World) (h : RW w c x) : Calls Tryd.prog 76 #[c.val] w fun e w' => e = .returned (.int .i64 (depthV x)) ∧ Below w.heap.size w w' := by
  have H := Lib.hid h
  clear h
  go_enter Tryd.func76, Tryd.ntmps76
  go_wp2_with fail
  refine (depth_any x c 17 _ (H.out.alloc _) (by omega) (by omega)).mono ?_
  rintro e w1 ⟨rfl, hb⟩
  go_wp2_with fail
  go_ret
  exact ⟨rfl, ((Below.refl _ _).alloc (Nat.le_refl _) _).step' hb⟩
end Go.Proofs.YtgcklgkhdokchaaDoor
