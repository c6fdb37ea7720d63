/- Three comparisons that fit. -/
import Derived.Test.YtefolbfopjfbcaaKit7
namespace Go.Proofs.Ytefolbfopjfbcaa

/-- three results of a comparison fit -/
def TR (a b c : Int) : Prop := a ≤ 0 → b ≤ 0 → c ≤ 0 ∧ (c = 0 ↔ a = 0 ∧ b = 0)

end Go.Proofs.Ytefolbfopjfbcaa
