/- Stores into a list, one behind the other. -/
import Derived.Test.YtefolbfopjfbcaaKit5
namespace Go.Proofs.Ytefolbfopjfbcaa
open Go.RowKit

/-- stores into a list, one behind the other -/
def setList {α : Type} (l : List α) (k : Nat) : List α → List α
  | [] => l
  | v :: vs => setList (l.set k v) (k + 1) vs
theorem setList_eq {α : Type} : ∀ (vs l : List α) (k : Nat), k + vs.length ≤ l.length → setList l k vs = l.take k ++ vs ++ l.drop (k + vs.length) := by
  intro vs
  induction vs with
  | nil => intro l k _; simp [setList]
  | cons v vs ih =>
    intro l k h
    simp only [List.length_cons] at h
    rw [setList, ih _ _ (by simp; omega), List.take_set, List.drop_set_of_lt (by omega)]
    have e1 : (l.take (k + 1)).set k v = l.take k ++ [v] := by
      rw [List.take_succ_eq_append_getElem (by omega), List.set_append_right _ _ (by simp; omega)]
      simp
      rw [show k - min k l.length = 0 by omega]
      rfl
    rw [e1]
    simp only [List.append_assoc, List.singleton_append, List.length_cons, show k + 1 + vs.length = k + (vs.length + 1) by omega]

end Go.Proofs.Ytefolbfopjfbcaa
