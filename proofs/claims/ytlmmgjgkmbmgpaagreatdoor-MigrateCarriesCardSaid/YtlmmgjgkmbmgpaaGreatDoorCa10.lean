/- Parts of the proof, joined: ValCmp. -/
import Derived.Test.YtlmmgjgkmbmgpaaGreatDoorCa1
import Derived.Test.YtlmmgjgkmbmgpaaGreatDoorCa2
import Derived.Lib.Walk
/- Contracts of cmp.Compare, strings.Compare and value.Compare. (The first two: the shelf's texts, turned to this claim.) -/
namespace Go.Proofs.YtlmmgjgkmbmgpaaGreatDoor
open Go.RowKit

/-- the two boxes of Compare -/
structure CpInv (w : World) (c d : VC) (wr : World) : Prop where
  b0 : Blk wr w.heap.size 46 c.arr
  b1 : Blk wr (w.heap.size + 1) 46 d.arr
  bel : Below w.heap.size w wr
theorem CpInv.step {w wr w' : World} {c d : VC} (h : CpInv w c d wr) (hb : Below wr.heap.size wr w') : CpInv w c d w' := ⟨h.b0.step hb, h.b1.step hb, h.bel.step' hb⟩

end Go.Proofs.YtlmmgjgkmbmgpaaGreatDoor

