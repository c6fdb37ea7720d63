/- A point inside a shape lies within its corners. -/
import Derived.Test.YtefolbfopjfbcaaGeoInB
namespace Go.Proofs.Ytefolbfopjfbcaa
open Go.RowKit

theorem sq_pos (a : Int) : 0 ≤ a * a := by
  rcases Int.le_total 0 a with h | h
  · exact Int.mul_nonneg h h
  · exact Int.mul_nonneg_of_nonpos_of_nonpos h h
/-- a point inside a shape lies within its corners -/
theorem inside_in {k : Int} {ps : List (Int × Int)} {r x y : Int} (h : insideB k ps r x y = true) : InB (cornersOf (bbTo (headP ps).1 (headP ps).2 ps) r) x y := by
  unfold insideB at h
  simp only [Bool.and_eq_true] at h
  obtain ⟨hv, hp, hc⟩ := h
  obtain ⟨hf, hall⟩ := validB_form hv
  have hpt := pointB_true hp
  rcases formB_cases hf with ⟨rfl, hn, rfl⟩ | ⟨rfl, hn, hr0, hr1⟩ | ⟨rfl, hn, _, rfl⟩
  · unfold insideCore at hc
    simp only [boxB] at hc
    unfold InB
    simp at hc
    exact ⟨hc.1, hc.2.1, hc.2.2.1, hc.2.2.2⟩
  · unfold insideCore at hc
    obtain ⟨p, rfl⟩ : ∃ p, ps = [p] := by
      match ps, hn with
      | [p], _ => exact ⟨p, rfl⟩
      | [], hn => simp at hn
      | _ :: _ :: _, hn => simp at hn; omega
    have hpp := hall p (by simp)
    have hq := pointB_true hpp
    simp [headP, distI, hpp, hp] at hc
    have h1 : (p.1 - x) * (p.1 - x) ≤ r * r := by have := sq_pos (p.2 - y); omega
    have h2 : (p.2 - y) * (p.2 - y) ≤ r * r := by have := sq_pos (p.1 - x); omega
    have s1 := sq_in hr0 h1
    have s2 := sq_in hr0 h2
    unfold InB cornersOf
    simp [headP, bbTo, bbStep]
    omega
  · unfold insideCore at hc
    simp at hc
    have hne : ps ≠ [] := fun e => by rw [e] at hn; simp at hn
    have hb := poly_in hne (fun p hp => bbTo_bound (x0 := (headP ps).1) (y0 := (headP ps).2) hp) hc
    unfold InB cornersOf
    simp only
    omega

end Go.Proofs.Ytefolbfopjfbcaa
