/- The tables of unicode/utf8 lie in memory as their initialisers lay them. -/
import Derived.Test.YtgcklgkhdokchaaDoorKit5
import Derived.Shelf.Unicode.DecodeSlow
namespace Go.Proofs.YtgcklgkhdokchaaDoor
open Go.RowKit

def Tabs (w : World) : Prop := Lib.Utf8Tabs 0 1 w
theorem Tabs.step {w w' : World} (h : Tabs w) (hb : Below w.heap.size w w') : Tabs w' := Utf8Tabs_below h hb
theorem Tabs.alloc {w : World} (h : Tabs w) (o : Obj) : Tabs (w.alloc o) := h.step ((Below.refl _ _).alloc (Nat.le_refl _) o)

end Go.Proofs.YtgcklgkhdokchaaDoor
