/- The gaps of a list of ranges as a comparison. -/
import Derived.Test.YtefolbfopjfbcaaGeoReducePure
import Derived.Test.YtefolbfopjfbcaaSortPure
namespace Go.Proofs.Ytefolbfopjfbcaa

/-- what reduce's comparison looks at: where the variable l lies, and the ranges that it holds -/
structure Ctx where
  mc : Nat
  L : List Rg
def recI (p : Int) : List Value := [.int .i64 p]
theorem recI_length (p : Int) : (recI p).length = 1 := rfl
/-- the gap ahead of range i -/
def gapL (L : List Rg) (i : Int) : Int := match L[i.toNat]?, L[i.toNat - 1]? with
  | some a, some b => a.1 - b.2
  | _, _ => 0
def gapC [Inhabited Ctx] (i j : Int) : Int := gapL (default : Ctx).L j - gapL (default : Ctx).L i
theorem gapC_ordered [Inhabited Ctx] : Ordered (fun p q : Int => gapC p q) := by
  refine ⟨fun x y => ?_, fun x y z => ?_⟩
  · unfold gapC; omega
  · unfold TR gapC; omega

end Go.Proofs.Ytefolbfopjfbcaa
