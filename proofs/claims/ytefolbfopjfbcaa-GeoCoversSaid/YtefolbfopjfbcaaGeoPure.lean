/- Contracts of the small functions of the packages geo and docstoreref10 that only compute. -/
import Derived.Test.YtefolbfopjfbcaaKit
namespace Go.Proofs.Ytefolbfopjfbcaa
open Go.RowKit

/-- a coordinate -/
def coordB (n : Int) : Bool := decide (0 ≤ n) && decide (n < 65536)
theorem coordB_true {n : Int} (h : coordB n = true) : 0 ≤ n ∧ n < 65536 := by simpa [coordB] using h
theorem coordB_of {n : Int} (h0 : 0 ≤ n) (h1 : n < 65536) : coordB n = true := by simp [coordB, h0, h1]
theorem coordB_not {n : Int} (h : ¬ (0 ≤ n ∧ n < 65536)) : coordB n = false := by
  cases hb : coordB n
  · rfl
  · exact absurd (coordB_true hb) h

/-- a value of type Point -/
abbrev pt (x y : Int) : Value := .agg #[.int .i64 x, .int .i64 y]
/-- a point with coordinates -/
def pointB (x y : Int) : Bool := coordB x && coordB y
theorem pointB_true {x y : Int} (h : pointB x y = true) : 0 ≤ x ∧ x < 65536 ∧ 0 ≤ y ∧ y < 65536 := by
  simp [pointB] at h
  have h1 := coordB_true h.1
  have h2 := coordB_true h.2
  omega

set_option maxHeartbeats 400000 in
theorem isCoordinate_any (n : Int) (w : World) :
    Calls Try.prog 37 #[.int .i64 n] w fun e w' => e = .returned (.bool (coordB n)) ∧ w = w' := by
  by_cases h0 : 0 ≤ n
  · by_cases h1 : n < 65536
    · have hc := Lib.hid (coordB_of h0 h1)
      go_enter Try.func37, Try.ntmps37
      go_wp2
      go_ret
      exact ⟨by rw [hc.out]; rfl, rfl⟩
    · have hc := Lib.hid (coordB_not (n := n) (by omega))
      go_enter Try.func37, Try.ntmps37
      go_wp2
      go_ret
      exact ⟨by rw [hc.out]; rfl, rfl⟩
  · have hc := Lib.hid (coordB_not (n := n) (by omega))
    go_enter Try.func37, Try.ntmps37
    go_wp2
    go_ret
    exact ⟨by rw [hc.out]; rfl, rfl⟩

set_option maxHeartbeats 400000 in
theorem isPoint_any (x y : Int) (w : World) :
    Calls Try.prog 27 #[pt x y] w fun e w' => e = .returned (.bool (pointB x y)) ∧ Below w.heap.size w w' := by
  cases h0 : coordB x
  · have hc : Hid (pointB x y = false) := by simp [pointB, h0, Hid]
    go_enter Try.func27, Try.ntmps27
    go_wp2_with (go_at_call 37; refine (isCoordinate_any _ _).mono ?_; rintro e w' ⟨rfl, rfl⟩)
    go_ret
    exact ⟨by rw [hc.out]; rfl, (Below.refl _ _).alloc (Nat.le_refl _) _⟩
  · have hc : Hid (pointB x y = coordB y) := by simp [pointB, h0, Hid]
    go_enter Try.func27, Try.ntmps27
    go_wp2_with (go_at_call 37; refine (isCoordinate_any _ _).mono ?_; rintro e w' ⟨rfl, rfl⟩)
    go_ret
    exact ⟨by rw [hc.out]; rfl, (Below.refl _ _).alloc (Nat.le_refl _) _⟩

/-- the square of the distance -/
def distI (ax ay bx by' : Int) : Int := if pointB ax ay && pointB bx by' then (ax - bx) * (ax - bx) + (ay - by') * (ay - by') else -1

theorem sq_bound {a b : Int} (h1 : -65536 < a) (h2 : a < 65536) (h3 : -65536 < b) (h4 : b < 65536) : -4294967296 < a * b ∧ a * b < 4294967296 := by
  have : (a * b).natAbs < 4294967296 := by
    rw [Int.natAbs_mul]
    calc a.natAbs * b.natAbs ≤ 65535 * 65535 := Nat.mul_le_mul (by omega) (by omega)
      _ < _ := by decide
  omega

set_option maxHeartbeats 400000 in
theorem distance_any (ax ay bx by' : Int) (w : World) :
    Calls Try.prog 19 #[pt ax ay, pt bx by'] w fun e w' => e = .returned (.int .i64 (distI ax ay bx by')) ∧ Below w.heap.size w w' := by
  cases h0 : pointB ax ay
  · have hc : Hid (distI ax ay bx by' = -1) := by simp [distI, h0, Hid]
    go_enter Try.func19, Try.ntmps19
    go_wp2_with (go_at_call 27; refine (isPoint_any _ _ _).mono ?_; rintro e w1 ⟨rfl, hb⟩)
    go_ret
    exact ⟨by rw [hc.out]; rfl, (((Below.refl _ _).alloc (Nat.le_refl _) _).alloc (by simp) _).trans (hb.mono (by simp; omega))⟩
  · cases h1 : pointB bx by'
    · have hc : Hid (distI ax ay bx by' = -1) := by simp [distI, h1, Hid]
      go_enter Try.func19, Try.ntmps19
      go_wp2_with fail
      refine (isPoint_any _ _ _).mono ?_
      rintro e w1 ⟨rfl, hb⟩
      obtain ⟨hc1, hf1⟩ := bcell hb
      go_wp2_with fail
      refine (isPoint_any _ _ _).mono ?_
      rintro e w2 ⟨rfl, hb2⟩
      go_wp2_with fail
      go_ret
      exact ⟨by rw [hc.out]; rfl, ((((Below.refl _ _).alloc (Nat.le_refl _) _).alloc (by simp) _).trans (hb.mono (by simp; omega))).trans (hb2.mono (by have := hb.size; simp at this; omega))⟩
    · have hc : Hid (distI ax ay bx by' = (ax - bx) * (ax - bx) + (ay - by') * (ay - by')) := by simp [distI, h0, h1, Hid]
      obtain ⟨a1, a2, a3, a4⟩ := pointB_true h0
      obtain ⟨b1, b2, b3, b4⟩ := pointB_true h1
      have sx := sq_bound (a := ax - bx) (b := ax - bx) (by omega) (by omega) (by omega) (by omega)
      have sy := sq_bound (a := ay - by') (b := ay - by') (by omega) (by omega) (by omega) (by omega)
      go_enter Try.func19, Try.ntmps19
      go_wp2_with fail
      refine (isPoint_any _ _ _).mono ?_
      rintro e w1 ⟨rfl, hb⟩
      obtain ⟨hc1, hf1⟩ := bcell hb
      go_wp2_with fail
      refine (isPoint_any _ _ _).mono ?_
      rintro e w2 ⟨rfl, hb2⟩
      replace hb := hb.step hb2
      clear hb2 hc1 hf1
      obtain ⟨hc1, hf1⟩ := bcell hb
      go_wp2_with fail
      go_ret
      exact ⟨by rw [hc.out]; rfl, (((Below.refl _ _).alloc (Nat.le_refl _) _).alloc (by simp) _).trans (hb.mono (by simp; omega))⟩

theorem ret_bool {a b : Bool} (h : a = b) : Ending.returned (.bool a) = .returned (.bool b) := by rw [h]
theorem ret_int {k : IntKind} {a b : Int} (h : a = b) : Ending.returned (.int k a) = .returned (.int k b) := by rw [h]

/-- the cross product of the vectors from a to b and from a to p -/
def turnI (ax ay bx by' px py : Int) : Int := (bx - ax) * (py - ay) - (by' - ay) * (px - ax)

set_option maxHeartbeats 400000 in
theorem turn_any (ax ay bx by' px py : Int) (w : World) (ha : pointB ax ay = true) (hb : pointB bx by' = true) (hp : pointB px py = true) :
    Calls Try.prog 45 #[pt ax ay, pt bx by', pt px py] w fun e w' => e = .returned (.int .i64 (turnI ax ay bx by' px py)) ∧ Below w.heap.size w w' := by
  obtain ⟨a1, a2, a3, a4⟩ := pointB_true ha
  obtain ⟨b1, b2, b3, b4⟩ := pointB_true hb
  obtain ⟨p1, p2, p3, p4⟩ := pointB_true hp
  clear ha hb hp
  have sx := sq_bound (a := bx - ax) (b := py - ay) (by omega) (by omega) (by omega) (by omega)
  have sy := sq_bound (a := by' - ay) (b := px - ax) (by omega) (by omega) (by omega) (by omega)
  go_enter Try.func45, Try.ntmps45
  go_wp2_with fail
  go_ret
  exact ⟨rfl, (((Below.refl _ _).alloc (Nat.le_refl _) _).alloc (by simp) _).alloc (by simp; omega) _⟩

/-- p lies on the segment from a to b -/
def edgeB (ax ay bx by' px py : Int) : Bool :=
  turnI ax ay bx by' px py == 0 && (decide (min ax bx ≤ px) && (decide (px ≤ max ax bx) && (decide (min ay by' ≤ py) && decide (py ≤ max ay by'))))

set_option maxHeartbeats 1000000 in
theorem onEdge_any (ax ay bx by' px py : Int) (w : World) (ha : pointB ax ay = true) (hb : pointB bx by' = true) (hp : pointB px py = true) :
    Calls Try.prog 33 #[pt ax ay, pt bx by', pt px py] w fun e w' => e = .returned (.bool (edgeB ax ay bx by' px py)) ∧ Below w.heap.size w w' := by
  go_enter Try.func33, Try.ntmps33
  go_wp2_with fail
  refine (turn_any _ _ _ _ _ _ _ ha hb hp).mono ?_
  rintro e w1 ⟨rfl, hb1⟩
  obtain ⟨hc1, hf1⟩ := bcell hb1
  go_wp2_with fail
  all_goals go_ret
  all_goals refine ⟨ret_bool ?_, ((((Below.refl _ _).alloc (Nat.le_refl _) _).alloc (by simp) _).alloc (by simp; omega) _).trans (hb1.mono (by simp; omega))⟩
  all_goals (rw [Bool.eq_iff_iff]; clear hc1 hf1 hb1; simp [edgeB, *]; try omega)

/-- the edge from a to b crosses the ray from p to the right -/
def crossB (ax ay bx by' px py : Int) : Bool :=
  if decide (py < ay) == decide (py < by') then false else if by' < ay then decide (0 < turnI bx by' ax ay px py) else decide (0 < turnI ax ay bx by' px py)

set_option maxHeartbeats 1000000 in
theorem crosses_any (ax ay bx by' px py : Int) (w : World) (ha : pointB ax ay = true) (hb : pointB bx by' = true) (hp : pointB px py = true) :
    Calls Try.prog 34 #[pt ax ay, pt bx by', pt px py] w fun e w' => e = .returned (.bool (crossB ax ay bx by' px py)) ∧ Below w.heap.size w w' := by
  cases h1 : (decide (py < ay) == decide (py < by'))
  · by_cases h2 : by' < ay
    · have HE : Hid (crossB ax ay bx by' px py = decide (0 < turnI bx by' ax ay px py)) := by simp [crossB, h1, h2, Hid]
      go_enter Try.func34, Try.ntmps34
      go_wp2_with (go_at_call 45; refine (turn_any _ _ _ _ _ _ _ hb ha hp).mono ?_; rintro e w1 ⟨rfl, hb1⟩)
      go_ret
      exact ⟨by rw [HE.out]; rfl, ((((Below.refl _ _).alloc (Nat.le_refl _) _).alloc (by simp) _).alloc (by simp; omega) _).trans (hb1.mono (by simp; omega))⟩
    · have HE : Hid (crossB ax ay bx by' px py = decide (0 < turnI ax ay bx by' px py)) := by simp [crossB, h1, h2, Hid]
      go_enter Try.func34, Try.ntmps34
      go_wp2_with (go_at_call 45; refine (turn_any _ _ _ _ _ _ _ ha hb hp).mono ?_; rintro e w1 ⟨rfl, hb1⟩)
      go_ret
      exact ⟨by rw [HE.out]; rfl, ((((Below.refl _ _).alloc (Nat.le_refl _) _).alloc (by simp) _).alloc (by simp; omega) _).trans (hb1.mono (by simp; omega))⟩
  · have HE : Hid (crossB ax ay bx by' px py = false) := by simp [crossB, h1, Hid]
    go_enter Try.func34, Try.ntmps34
    go_wp2_with fail
    go_ret
    exact ⟨by rw [HE.out]; rfl, ((((Below.refl _ _).alloc (Nat.le_refl _) _).alloc (by simp) _).alloc (by simp; omega) _)⟩

end Go.Proofs.Ytefolbfopjfbcaa
