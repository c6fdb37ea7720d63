/- A point inside a shape lies within the shape's bounds. -/
import Derived.Test.YtefolbfopjfbcaaGeoInBox
import Derived.Test.YtefolbfopjfbcaaGeoCoverPure
namespace Go.Proofs.Ytefolbfopjfbcaa
open Go.RowKit

theorem bb_fold (ps : List (Int × Int)) : ∀ b : Box, ((ps.foldl bbStep b).1 ≤ b.1 ∧ (ps.foldl bbStep b).2.1 ≤ b.2.1 ∧ b.2.2.1 ≤ (ps.foldl bbStep b).2.2.1 ∧ b.2.2.2 ≤ (ps.foldl bbStep b).2.2.2) ∧
    ∀ p ∈ ps, (ps.foldl bbStep b).1 ≤ p.1 ∧ (ps.foldl bbStep b).2.1 ≤ p.2 ∧ p.1 ≤ (ps.foldl bbStep b).2.2.1 ∧ p.2 ≤ (ps.foldl bbStep b).2.2.2 := by
  induction ps with
  | nil => intro b; exact ⟨⟨Int.le_refl _, Int.le_refl _, Int.le_refl _, Int.le_refl _⟩, by simp⟩
  | cons a r ih =>
    intro b
    obtain ⟨h1, h2⟩ := ih (bbStep b a)
    rw [List.foldl_cons]
    have e : bbStep b a = (min b.1 a.1, min b.2.1 a.2, max b.2.2.1 a.1, max b.2.2.2 a.2) := rfl
    rw [e] at h1 h2 ⊢
    simp only at h1
    refine ⟨⟨by omega, by omega, by omega, by omega⟩, fun p hp => ?_⟩
    rcases List.mem_cons.1 hp with rfl | hp
    · exact ⟨by omega, by omega, by omega, by omega⟩
    · exact h2 p hp
theorem bbTo_bound {x0 y0 : Int} {ps : List (Int × Int)} {p : Int × Int} (h : p ∈ ps) : (bbTo x0 y0 ps).1 ≤ p.1 ∧ (bbTo x0 y0 ps).2.1 ≤ p.2 ∧ p.1 ≤ (bbTo x0 y0 ps).2.2.1 ∧ p.2 ≤ (bbTo x0 y0 ps).2.2.2 := (bb_fold ps _).2 p h
theorem lastP_mem {ps : List (Int × Int)} (h : ps ≠ []) : lastP ps ∈ ps := by
  rw [lastP, List.getLastD_eq_getLast?, List.getLast?_eq_some_getLast h]
  exact List.getLast_mem h
/-- a polygon's points lie within the bounds of its corners -/
theorem poly_in {ps : List (Int × Int)} {px py a b c d : Int} (hne : ps ≠ []) (hb : ∀ p ∈ ps, a ≤ p.1 ∧ b ≤ p.2 ∧ p.1 ≤ c ∧ p.2 ≤ d) (h : polyFrom (lastP ps).1 (lastP ps).2 false px py ps = true) : a ≤ px ∧ px ≤ c ∧ b ≤ py ∧ py ≤ d := by
  have hall : ∀ q ∈ ((lastP ps).1, (lastP ps).2) :: ps, a ≤ q.1 ∧ b ≤ q.2 ∧ q.1 ≤ c ∧ q.2 ≤ d := fun q hq => by
    rcases List.mem_cons.1 hq with rfl | hq
    · exact hb _ (lastP_mem hne)
    · exact hb q hq
  have none : (px < a ∨ c < px ∨ py < b ∨ d < py) → (∀ q ∈ ((lastP ps).1, (lastP ps).2) :: ps, ∀ q' ∈ ((lastP ps).1, (lastP ps).2) :: ps, crossB q.1 q.2 q'.1 q'.2 px py = false) → False := fun ho hc => by
    rw [poly_none ps _ _ false fun q hq q' hq' => ⟨edge_far (by have := hall q hq; have := hall q' hq'; omega), hc q hq q' hq'⟩] at h
    cases h
  by_cases h1 : a ≤ px
  · by_cases h2 : px ≤ c
    · by_cases h3 : b ≤ py
      · by_cases h4 : py ≤ d
        · exact ⟨h1, h2, h3, h4⟩
        · exact (none (by omega) fun q hq q' hq' => cross_side (.inr (by have := hall q hq; have := hall q' hq'; omega))).elim
      · exact (none (by omega) fun q hq q' hq' => cross_side (.inl (by have := hall q hq; have := hall q' hq'; omega))).elim
    · exact (none (by omega) fun q hq q' hq' => cross_right (by have := hall q hq; omega) (by have := hall q' hq'; omega)).elim
  · exfalso
    rw [poly_left ps _ _ false fun q hq => by have := hall q hq; omega] at h
    have e : (((lastP ps).1, (lastP ps).2) :: ps).getLastD (0, 0) = lastP ps := by
      cases ps with
      | nil => exact absurd rfl hne
      | cons x r => simp [lastP]
    rw [e] at h
    simp at h
theorem sq_in {a r : Int} (hr : 0 ≤ r) (h : a * a ≤ r * r) : -r ≤ a ∧ a ≤ r := by
  constructor
  · by_cases c : -r ≤ a
    · exact c
    · have : r * r < (-a) * (-a) := Int.mul_lt_mul' (by omega) (by omega) hr (by omega)
      rw [Int.neg_mul_neg] at this
      omega
  · by_cases c : a ≤ r
    · exact c
    · have : r * r < a * a := Int.mul_lt_mul' (by omega) (by omega) hr (by omega)
      omega

end Go.Proofs.Ytefolbfopjfbcaa
