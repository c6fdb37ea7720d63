/- The walk of the law GeoCircles. -/
import Derived.Test.YtefolbfopjfbcaaGeoAwake
import Derived.Test.YtefolbfopjfbcaaGeoOpen
namespace Go.Proofs.Ytefolbfopjfbcaa
open Go.RowKit

theorem RdPts.of_blk1 {w : World} {g : Nat} {t : TypeId} {a b : Int} (h : Blk w g t #[.int .i64 a, .int .i64 b]) : RdPts w (some ⟨g, 0, none⟩) 1 [(a, b)] := by
  refine ⟨rfl, by decide, fun _ => ⟨g, 0, rfl, h.lt, fun i x y hi => ?_⟩⟩
  match i, hi with
  | 0, hi =>
    simp at hi
    obtain ⟨rfl, rfl⟩ := hi
    exact ⟨by rw [h.cell]; rfl, by rw [h.cell]; rfl⟩
  | i + 1, hi => simp at hi

structure CiInv (w : World) (cx cy px py r : Int) (wr : World) : Prop where
  b0 : Blk wr w.heap.size 27 #[.int .i64 cx, .int .i64 cy]
  b1 : Blk wr (w.heap.size + 1) 27 #[.int .i64 px, .int .i64 py]
  b2 : Blk wr (w.heap.size + 2) 27 #[.int .i64 cx, .int .i64 cy]
  b3 : Blk wr (w.heap.size + 3) 35 #[.int .i64 2, .slice (some ⟨w.heap.size + 2, 0, none⟩) 1 1, .int .i64 r]
  bel : Below w.heap.size w wr
theorem CiInv.step {w wr w' : World} {cx cy px py r : Int} (h : CiInv w cx cy px py r wr) (hb : Below wr.heap.size wr w') : CiInv w cx cy px py r w' :=
  ⟨h.b0.step hb, h.b1.step hb, h.b2.step hb, h.b3.step hb, h.bel.step' hb⟩
theorem CiInv.cells {w wr : World} {cx cy px py r : Int} (h : CiInv w cx cy px py r wr) :
    wr.cell? ⟨w.heap.size, 0, none⟩ = some (.int .i64 cx) ∧ wr.cell? ⟨w.heap.size, 1, none⟩ = some (.int .i64 cy) ∧ wr.cell? ⟨w.heap.size + 1, 0, none⟩ = some (.int .i64 px) ∧ wr.cell? ⟨w.heap.size + 1, 1, none⟩ = some (.int .i64 py) ∧
    wr.cell? ⟨w.heap.size + 3, 0, none⟩ = some (.int .i64 2) ∧ wr.cell? ⟨w.heap.size + 3, 1, none⟩ = some (.slice (some ⟨w.heap.size + 2, 0, none⟩) 1 1) ∧ wr.cell? ⟨w.heap.size + 3, 2, none⟩ = some (.int .i64 r) :=
  ⟨h.b0.cell 0, h.b0.cell 1, h.b1.cell 0, h.b1.cell 1, h.b3.cell 0, h.b3.cell 1, h.b3.cell 2⟩

theorem circle_in (cx cy r px py : Int) (h : validB 2 [(cx, cy)] r = true) : insideB 2 [(cx, cy)] r px py = (decide (0 ≤ distI cx cy px py) && decide (distI cx cy px py ≤ r * r)) := by
  have hv := validB_form h
  have hc : pointB cx cy = true := hv.2 (cx, cy) (by simp)
  have e : insideCore 2 [(cx, cy)] r px py = decide (distI cx cy px py ≤ r * r) := rfl
  simp only [insideB, h, Bool.true_and, e]
  cases hp : pointB px py
  · have : distI cx cy px py = -1 := by simp [distI, hp]
    rw [this]
    simp
  · have : 0 ≤ distI cx cy px py := by
      simp only [distI, hc, hp, Bool.and_self, if_true]
      have h1 : 0 ≤ (cx - px) * (cx - px) := mul_self_nonneg' _
      have h2 : 0 ≤ (cy - py) * (cy - py) := mul_self_nonneg' _
      omega
    simp [this]
where
  mul_self_nonneg' (a : Int) : 0 ≤ a * a := by
    rcases Int.le_total 0 a with h | h
    · exact Int.mul_nonneg h h
    · have := Int.mul_nonneg (Int.neg_nonneg_of_nonpos h) (Int.neg_nonneg_of_nonpos h)
      rwa [Int.neg_mul_neg] at this

theorem circle_centre (cx cy r : Int) (h : validB 2 [(cx, cy)] r = true) : insideB 2 [(cx, cy)] r cx cy = true := by
  have hv := validB_form h
  have hc : pointB cx cy = true := hv.2 (cx, cy) (by simp)
  have hr : 0 ≤ r := by
    rcases formB_cases hv.1 with h | h | h <;> omega
  rw [circle_in cx cy r cx cy h]
  have : distI cx cy cx cy = 0 := by simp [distI, hc]
  rw [this]
  simpa using Int.mul_nonneg hr hr

set_option maxHeartbeats 1000000 in
theorem geoCircles_walk (cx cy px py r : Int) (w : World) :
    Calls Try.prog 8 #[pt cx cy, pt px py, .int .i64 r] w fun e w' => e = .returned (.bool true) ∧ Below w.heap.size w w' := by
  go_enter Try.func8, Try.ntmps8
  go_wp2_with fail
  have I0 : CiInv w cx cy px py r ((((w.alloc (Obj.cells #[Value.int IntKind.i64 cx, Value.int IntKind.i64 cy] 27)).alloc (Obj.cells #[Value.int IntKind.i64 px, Value.int IntKind.i64 py] 27)).alloc (Obj.cells #[Value.int IntKind.i64 cx, Value.int IntKind.i64 cy] 27)).alloc (Obj.cells #[.int .i64 2, .slice (some ⟨w.heap.size + 2, 0, none⟩) 1 1, .int .i64 r] 35)) :=
    ⟨(((Blk.new_at rfl).alloc _).alloc _).alloc _, ((Blk.new_at (by simp)).alloc _).alloc _, (Blk.new_at (by simp)).alloc _, Blk.new_at (by simp), ((((Below.refl _ _).alloc (Nat.le_refl _) _).alloc (by simp) _).alloc (by simp; omega) _).alloc (by simp; omega) _⟩
  refine (valid_any _ _ _ _ _ _ _ (RdPts.of_blk1 I0.b2)).mono ?_
  rintro e w1 ⟨rfl, hb⟩
  have I1 := I0.step hb
  clear I0 hb
  obtain ⟨e0, e1, e2, e3, e4, e5, e6⟩ := I1.cells
  have J1 := Lib.hid I1
  clear I1
  cases hv : validB 2 [(cx, cy)] r
  · have hv' : (errOf false != 0) = true := by decide
    have HI : Hid (insideB 2 [(cx, cy)] r px py = false) := by simp [insideB, hv, Hid]
    go_wp2_with fail
    refine (inside_any _ _ _ _ _ _ _ _ _ (RdPts.of_blk1 J1.out.b2)).mono ?_
    rintro e w2 ⟨rfl, hb⟩
    rw [HI.out]
    have I2 := J1.out.step hb
    have J2 := Lib.hid I2
    clear I2 hb e0 e1 e2 e3 e4 e5 e6
    go_wp2_with fail
    refine (awake_any _).mono ?_
    rintro e w3 ⟨rfl, hb⟩
    go_wp2_with fail
    go_ret
    exact ⟨rfl, J2.out.bel.step' hb⟩
  · have hv' : (errOf true != 0) = false := by decide
    have hr : 0 ≤ r ∧ r < 65536 := by
      have hf := (validB_form hv).1
      rcases formB_cases hf with h | h | h <;> omega
    have sr := sq_bound (a := r) (b := r) (by omega) (by omega) (by omega) (by omega)
    have HI := Lib.hid (circle_centre cx cy r hv)
    have HP := Lib.hid (circle_in cx cy r px py hv)
    go_wp2_with fail
    refine (inside_any _ _ _ _ _ _ _ _ _ (RdPts.of_blk1 J1.out.b2)).mono ?_
    rintro e w2 ⟨rfl, hb⟩
    rw [HI.out]
    have I2 := J1.out.step hb
    clear hb e0 e1 e2 e3 e4 e5 e6 J1
    obtain ⟨e0, e1, e2, e3, e4, e5, e6⟩ := I2.cells
    have J2 := Lib.hid I2
    clear I2
    go_wp2_with fail
    refine (distance_any _ _ _ _ _).mono ?_
    rintro e w3 ⟨rfl, hb⟩
    have I3 := J2.out.step hb
    clear hb e0 e1 e2 e3 e4 e5 e6 J2
    obtain ⟨e0, e1, e2, e3, e4, e5, e6⟩ := I3.cells
    have J3 := Lib.hid I3
    clear I3
    go_wp2_with fail
    refine (inside_any _ _ _ _ _ _ _ _ _ (RdPts.of_blk1 J3.out.b2)).mono ?_
    rintro e w4 ⟨rfl, hb⟩
    rw [HP.out]
    have J4 := Lib.hid (J3.out.step hb)
    clear hb e0 e1 e2 e3 e4 e5 e6 J3
    generalize distI cx cy px py = d at *
    by_cases h1 : 0 ≤ d
    · by_cases h2 : d ≤ r * r
      · have hq : (decide (0 ≤ d) && decide (d ≤ r * r)) = true := by simp [h1, h2]
        rw [hq]
        go_wp2_with (go_at_call 12; refine (awake_any _).mono ?_; rintro e w5 ⟨rfl, hb⟩)
        go_ret
        exact ⟨rfl, J4.out.bel.step' hb⟩
      · have hq : (decide (0 ≤ d) && decide (d ≤ r * r)) = false := by simp [h2]
        rw [hq]
        have h3 : decide (d ≤ r * r) = false := by simpa using h2
        go_wp2_with (go_at_call 12; refine (awake_any _).mono ?_; rintro e w5 ⟨rfl, hb⟩)
        go_ret
        exact ⟨rfl, J4.out.bel.step' hb⟩
    · have hq : (decide (0 ≤ d) && decide (d ≤ r * r)) = false := by simp [h1]
      rw [hq]
      have h3 : decide (0 ≤ d) = false := by simpa using h1
      go_wp2_with (go_at_call 12; refine (awake_any _).mono ?_; rintro e w5 ⟨rfl, hb⟩)
      go_ret
      exact ⟨rfl, J4.out.bel.step' hb⟩

end Go.Proofs.Ytefolbfopjfbcaa
