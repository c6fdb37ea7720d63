/- The walk of the law GeoCells. -/
import Derived.Test.YtefolbfopjfbcaaGeoAwake
import Derived.Test.YtefolbfopjfbcaaGeoOpen
namespace Go.Proofs.Ytefolbfopjfbcaa
open Go.RowKit

theorem cellI_inj {a b c d : Int} (h : cellI a b = cellI c d) (h1 : cellI a b ≠ -1) : a = c ∧ b = d := by
  cases p1 : pointB a b
  · simp [cellI, p1] at h1
  · cases p2 : pointB c d
    · simp [cellI, p1, p2] at h
    · simp only [cellI, p1, p2, if_true] at h
      have b1 := pointB_true p1
      have b2 := pointB_true p2
      have := cellN_inj 16 a.toNat b.toNat c.toNat d.toNat (by omega)
      omega

theorem distI_comm (a b c d : Int) : distI a b c d = distI c d a b := by
  simp only [distI, Bool.and_comm (pointB a b)]
  split
  · grind
  · rfl

/-- equality of two points, as Go's '==' -/
theorem pt_eql (a b : Int) (w : World) : (binOp .eql 27 (pt a b) (pt a b)).run Try.prog w = .ok (.bool true) w := by
  simp [go_sem]

set_option maxHeartbeats 1000000 in
theorem geoCells_walk (px py qx qy : Int) (w : World) :
    Calls Try.prog 6 #[pt px py, pt qx qy] w fun e w' => e = .returned (.bool true) ∧ Below w.heap.size w w' := by
  have hdist : (distI qx qy px py != distI px py qx qy) = false := by rw [distI_comm]; simp
  go_enter Try.func6, Try.ntmps6
  go_wp2_with fail
  have B1 : Blk ((w.alloc (Obj.cells #[Value.int IntKind.i64 px, Value.int IntKind.i64 py] 27)).alloc (Obj.cells #[Value.int IntKind.i64 qx, Value.int IntKind.i64 qy] 27)) w.heap.size 27 #[Value.int IntKind.i64 px, Value.int IntKind.i64 py] := (Blk.new_at rfl).alloc _
  have B2 : Blk ((w.alloc (Obj.cells #[Value.int IntKind.i64 px, Value.int IntKind.i64 py] 27)).alloc (Obj.cells #[Value.int IntKind.i64 qx, Value.int IntKind.i64 qy] 27)) (w.heap.size + 1) 27 #[Value.int IntKind.i64 qx, Value.int IntKind.i64 qy] := Blk.new_at (by simp)
  have B3 : Below w.heap.size w ((w.alloc (Obj.cells #[Value.int IntKind.i64 px, Value.int IntKind.i64 py] 27)).alloc (Obj.cells #[Value.int IntKind.i64 qx, Value.int IntKind.i64 qy] 27)) := ((Below.refl _ _).alloc (Nat.le_refl _) _).alloc (by simp) _
  generalize ((w.alloc (Obj.cells #[Value.int IntKind.i64 px, Value.int IntKind.i64 py] 27)).alloc (Obj.cells #[Value.int IntKind.i64 qx, Value.int IntKind.i64 qy] 27)) = w1 at *
  have E0 : ∀ k : BW w1, k.val.cell? ⟨w.heap.size, 0, none⟩ = some (.int .i64 px) := fun k => k.cell (B1.cell 0)
  have E1 : ∀ k : BW w1, k.val.cell? ⟨w.heap.size, 1, none⟩ = some (.int .i64 py) := fun k => k.cell (B1.cell 1)
  have E2 : ∀ k : BW w1, k.val.cell? ⟨w.heap.size + 1, 0, none⟩ = some (.int .i64 qx) := fun k => k.cell (B2.cell 0)
  have E3 : ∀ k : BW w1, k.val.cell? ⟨w.heap.size + 1, 1, none⟩ = some (.int .i64 qy) := fun k => k.cell (B2.cell 1)
  have J1 := Lib.hid B1
  have J2 := Lib.hid B2
  have J3 := Lib.hid B3
  clear B1 B2 B3
  refine wp_region_bw (by kernel_rfl) (by kernel_rfl) ?_
  repeat (go_big_quiet_step (exact Calls.bw (cell_any _ _ _)))
  refine wpQuiet_nil ?_
  rintro _ ⟨kw, rfl⟩
  have B1 := J1.out.step kw.below
  have B2 := J2.out.step kw.below
  have B3 := J3.out.step' kw.below
  clear E0 E1 E2 E3 J1 J2 J3
  generalize kw.val = w2 at *
  clear kw
  have E0 : ∀ k : BW w2, k.val.cell? ⟨w.heap.size, 0, none⟩ = some (.int .i64 px) := fun k => k.cell (B1.cell 0)
  have E1 : ∀ k : BW w2, k.val.cell? ⟨w.heap.size, 1, none⟩ = some (.int .i64 py) := fun k => k.cell (B1.cell 1)
  have E2 : ∀ k : BW w2, k.val.cell? ⟨w.heap.size + 1, 0, none⟩ = some (.int .i64 qx) := fun k => k.cell (B2.cell 0)
  have E3 : ∀ k : BW w2, k.val.cell? ⟨w.heap.size + 1, 1, none⟩ = some (.int .i64 qy) := fun k => k.cell (B2.cell 1)
  have J1 := Lib.hid B1
  have J2 := Lib.hid B2
  have J3 := Lib.hid B3
  clear B1 B2 B3
  go_wp2_with fail
  refine wp_region_bw (by kernel_rfl) (by kernel_rfl) ?_
  repeat (go_big_quiet_step (first | (go_at_call 18; exact Calls.bw (rcell_any _ _ _)) | (go_at_call 19; exact Calls.bw (distance_any _ _ _ _ _)) | (go_at_call 20; exact Calls.bw (rdistance_any _ _ _ _ _))))
  refine wpQuiet_nil ?_
  rintro _ ⟨kw, rfl⟩
  have B1 := J1.out.step kw.below
  have B2 := J2.out.step kw.below
  have B3 := J3.out.step' kw.below
  clear E0 E1 E2 E3 J1 J2 J3
  generalize kw.val = w3 at *
  clear kw
  have e0 := B1.cell 0
  have e1 := B1.cell 1
  have e2 := B2.cell 0
  have e3 := B2.cell 1
  simp at e0 e1 e2 e3
  have J3 := Lib.hid B3
  clear B1 B2 B3
  cases h1 : (cellI px py != cellI qx qy)
  · cases h2 : (cellI px py == -1)
    · have h3 : px = qx ∧ py = qy := cellI_inj (by simpa using h1) (by simpa using h2)
      obtain ⟨rfl, rfl⟩ := h3
      go_wp2_with (go_at_call 12; refine (awake_any _).mono ?_; rintro e w4 ⟨rfl, hb4⟩)
      go_ret
      exact ⟨rfl, J3.out.step' hb4⟩
    · go_wp2_with (go_at_call 12; refine (awake_any _).mono ?_; rintro e w4 ⟨rfl, hb4⟩)
      go_ret
      exact ⟨rfl, J3.out.step' hb4⟩
  · go_wp2_with (go_at_call 12; refine (awake_any _).mono ?_; rintro e w4 ⟨rfl, hb4⟩)
    go_ret
    exact ⟨rfl, J3.out.step' hb4⟩

end Go.Proofs.Ytefolbfopjfbcaa
