/- A point inside a polygon lies within the polygon's bounds: no program in sight. -/
import Derived.Test.YtefolbfopjfbcaaGeoPoly
namespace Go.Proofs.Ytefolbfopjfbcaa
open Go.RowKit

theorem edge_far {ax ay bx by' px py : Int} (h : px < min ax bx ∨ max ax bx < px ∨ py < min ay by' ∨ max ay by' < py) : edgeB ax ay bx by' px py = false := by
  cases e : edgeB ax ay bx by' px py
  · rfl
  · have := edge_yes e
    simp only [betwB, Bool.and_eq_true, decide_eq_true_eq] at this
    omega
theorem cross_side {ax ay bx by' px py : Int} (h : (py < ay ∧ py < by') ∨ (ay ≤ py ∧ by' ≤ py)) : crossB ax ay bx by' px py = false := by
  cases e : crossB ax ay bx by' px py
  · rfl
  · rcases (crossB_iff ax ay bx by' px py).1 e with h' | h' <;> omega
theorem turn_right {ax ay bx by' px py : Int} (h1 : ax < px) (h2 : bx < px) (h3 : ay ≤ py) (h4 : py < by') : turnI ax ay bx by' px py ≤ 0 := by
  unfold turnI
  have e1 : (bx - ax) * (py - ay) ≤ (px - ax) * (py - ay) := Int.mul_le_mul_of_nonneg_right (by omega) (by omega)
  have e2 : (px - ax) * (py - ay) ≤ (px - ax) * (by' - ay) := Int.mul_le_mul_of_nonneg_left (by omega) (by omega)
  rw [Int.mul_comm (px - ax) (by' - ay)] at e2
  omega
theorem turn_left {ax ay bx by' px py : Int} (h1 : px < ax) (h2 : px < bx) (h3 : ay ≤ py) (h4 : py < by') : 0 < turnI ax ay bx by' px py := by
  unfold turnI
  have e1 : (px - ax) * (py - ay) ≤ (bx - ax) * (py - ay) := Int.mul_le_mul_of_nonneg_right (by omega) (by omega)
  have e2 : 0 < (ax - px) * (by' - py) := Int.mul_pos (by omega) (by omega)
  have e3 : (px - ax) * (py - ay) - (by' - ay) * (px - ax) = (ax - px) * (by' - py) := by
    rw [Int.mul_comm (by' - ay) (px - ax), ← Int.mul_sub, show py - ay - (by' - ay) = -(by' - py) by omega, show px - ax = -(ax - px) by omega, Int.neg_mul_neg]
  omega
theorem cross_right {ax ay bx by' px py : Int} (h1 : ax < px) (h2 : bx < px) : crossB ax ay bx by' px py = false := by
  cases e : crossB ax ay bx by' px py
  · rfl
  · rcases (crossB_iff ax ay bx by' px py).1 e with ⟨h3, h4, h5⟩ | ⟨h3, h4, h5⟩
    · have := turn_right h1 h2 h3 h4; omega
    · have := turn_right (ax := bx) (ay := by') (bx := ax) (by' := ay) h2 h1 h3 h4
      rw [turnI_swap] at this
      omega
theorem cross_left {ax ay bx by' px py : Int} (h1 : px < ax) (h2 : px < bx) : crossB ax ay bx by' px py = (decide (py < ay) != decide (py < by')) := by
  by_cases ha : py < ay <;> by_cases hb : py < by'
  · rw [cross_side (.inl ⟨ha, hb⟩)]; simp [ha, hb]
  · rw [(crossB_iff ax ay bx by' px py).2 (.inr ⟨by omega, ha, ?_⟩)]
    · simp [ha, hb]
    · have := turn_left (ax := bx) (ay := by') (bx := ax) (by' := ay) h2 h1 (by omega) ha
      rw [turnI_swap] at this
      omega
  · rw [(crossB_iff ax ay bx by' px py).2 (.inl ⟨by omega, hb, turn_left h1 h2 (by omega) hb⟩)]
    simp [ha, hb]
  · rw [cross_side (.inr ⟨by omega, by omega⟩)]; simp [ha, hb]

/-- where no edge is met or crossed, nothing turns -/
theorem poly_none {px py : Int} : ∀ (ps : List (Int × Int)) (ax ay : Int) (odd : Bool), (∀ q ∈ (ax, ay) :: ps, ∀ q' ∈ (ax, ay) :: ps, edgeB q.1 q.2 q'.1 q'.2 px py = false ∧ crossB q.1 q.2 q'.1 q'.2 px py = false) → polyFrom ax ay odd px py ps = odd := by
  intro ps
  induction ps with
  | nil => intro ax ay odd _; rfl
  | cons b r ih =>
    intro ax ay odd h
    have h0 := h (ax, ay) (by simp) b (by simp)
    unfold polyFrom
    rw [h0.1, h0.2]
    simp only [Bool.false_eq_true, if_false]
    refine (ih b.1 b.2 _ fun q hq q' hq' => h q ?_ q' ?_).trans ?_
    · exact List.mem_cons_of_mem _ (by simpa using hq)
    · exact List.mem_cons_of_mem _ (by simpa using hq')
    · simp
/-- to the left of all corners each change of side turns -/
theorem poly_left {px py : Int} : ∀ (ps : List (Int × Int)) (ax ay : Int) (odd : Bool), (∀ q ∈ (ax, ay) :: ps, px < q.1) → polyFrom ax ay odd px py ps = (odd != (decide (py < ay) != decide (py < (((ax, ay) :: ps).getLastD (0, 0)).2))) := by
  intro ps
  induction ps with
  | nil => intro ax ay odd _; simp [polyFrom]
  | cons b r ih =>
    intro ax ay odd h
    have ha := h (ax, ay) (by simp)
    have hb := h b (by simp)
    simp only at ha
    unfold polyFrom
    rw [edge_far (.inl (by omega)), cross_left ha hb]
    simp only [Bool.false_eq_true, if_false]
    have hi := ih b.1 b.2 (if (decide (py < ay) != decide (py < b.2)) = true then !odd else odd) fun q hq => h q (List.mem_cons_of_mem _ (by simpa using hq))
    refine hi.trans ?_
    have e : ((ax, ay) :: b :: r).getLastD (0, 0) = ((b.1, b.2) :: r).getLastD (0, 0) := by cases r <;> simp
    rw [e]
    generalize decide (py < (((b.1, b.2) :: r).getLastD (0, 0)).2) = z
    cases odd <;> cases decide (py < ay) <;> cases decide (py < b.2) <;> cases z <;> rfl

end Go.Proofs.Ytefolbfopjfbcaa
