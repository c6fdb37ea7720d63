/- The walk of ChunksMiddles. -/
import Derived.Test.YtgcklgkhdokchaaDoorChAwake
import Derived.Test.YtgcklgkhdokchaaDoorChRMiddle
namespace Go.Proofs.YtgcklgkhdokchaaDoor
open Go.RowKit

set_option maxRecDepth 100000 in
theorem chunksMiddles_walk (A : Option Addr) (n c : Nat) (xs : List ByteArray) (w : World) (hT : Tabs w) (h : ST w A n c xs) :
    Calls Tryd.prog 4 #[.slice A n c] w fun e w' => e = .returned (.bool true) ∧ Below w.heap.size w w' := by
  have HT := Lib.hid hT
  have H := Lib.hid h
  clear hT h
  by_cases h200 : 200 < n
  · go_enter Tryd.func4, Tryd.ntmps4
    go_wp2_with fail
    refine (awake49_any w HT.out).mono ?_
    rintro e w1 ⟨rfl, hb⟩
    go_wp2_with fail
    go_ret
    exact ⟨rfl, hb⟩
  · have HE := Lib.hid (mid_eq xs)
    go_enter Tryd.func4, Tryd.ntmps4
    go_wp2_with fail
    refine (middle_any xs A n c w H.out).mono ?_
    rintro e w1 ⟨rfl, hb1⟩
    go_wp2_with fail
    refine (rmiddle_any xs A n c w1 (H.out.step hb1) (by omega)).mono ?_
    rintro e w2 ⟨rfl, hb2⟩
    rw [HE.out]
    have HB := Lib.hid (hb1.step hb2)
    clear hb1 hb2
    go_wp2_with fail
    refine (awake49_any w2 (HT.out.step HB.out)).mono ?_
    rintro e w3 ⟨rfl, hb3⟩
    go_wp2_with fail
    go_ret
    exact ⟨rfl, HB.out.step' hb3⟩

end Go.Proofs.YtgcklgkhdokchaaDoor
