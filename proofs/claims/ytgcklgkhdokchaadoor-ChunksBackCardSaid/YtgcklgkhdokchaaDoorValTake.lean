/- An operation of a region, by its place. -/
import Derived.Test.YtgcklgkhdokchaaDoorValMem
namespace Go.Proofs.YtgcklgkhdokchaaDoor
open Go.RowKit
theorem take_at {l rest : List Oper} {i : Nat} {o : Oper} (h : l.drop i = o :: rest) : l.toArray[i]? = some o := by
  have := congrArg List.head? h
  rw [List.head?_drop] at this
  simpa using this
end Go.Proofs.YtgcklgkhdokchaaDoor
