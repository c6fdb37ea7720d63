/- docstorelaw10.awake returns true. -/
import Derived.Test.YtefolbfopjfbcaaGeoCover1
import Derived.Test.YtefolbfopjfbcaaGeoPoint
import Derived.Test.YtefolbfopjfbcaaGeoInside
namespace Go.Proofs.Ytefolbfopjfbcaa
open Go.RowKit

theorem results_value {fn : Func} {p : Tmp} (h : fn.results = #[.cell p 25]) (tmps : Array Value) (g1 off : Nat) (h1 : tmps[p]?.getD undef = .pointer (some ⟨g1, off, none⟩))
    (W : World) (v : VC) (q : VAt W g1 off v) :
    (results fn tmps).run Try.prog W = .ok v.val W := by
  obtain ⟨q0, q1, q2, q3, q4⟩ := q
  simp [results, h, h1, asAddr, go_sem, q0, q1, q2, q3, q4]

set_option maxHeartbeats 400000 in
theorem rint_any (n : Int) (w : World) :
    Calls Try.prog 31 #[.int .i64 n] w fun e w' => e = .returned (VC.val ⟨3, n, ByteArray.empty, none, 0, 0, none, 0, 0⟩) ∧ Below w.heap.size w w' := by
  go_enter Try.func31, Try.ntmps31
  go_wp2_with fail
  exact bodyPost_ret (results_value rfl _ _ _ rfl _ ⟨3, n, ByteArray.empty, none, 0, 0, none, 0, 0⟩ (VAt.of_blk (Blk.new _ _ _))) rfl ⟨rfl, (Below.refl _ _).alloc (Nat.le_refl _) _⟩

set_option maxHeartbeats 400000 in
theorem rlist_any (A : Option Addr) (n c : Nat) (w : World) :
    Calls Try.prog 30 #[.slice A n c] w fun e w' => e = .returned (VC.val ⟨6, 0, ByteArray.empty, A, n, c, none, 0, 0⟩) ∧ Below w.heap.size w w' := by
  go_enter Try.func30, Try.ntmps30
  go_wp2_with fail
  exact bodyPost_ret (results_value rfl _ _ _ rfl _ ⟨6, 0, ByteArray.empty, A, n, c, none, 0, 0⟩ (VAt.of_blk (Blk.new _ _ _))) rfl ⟨rfl, (Below.refl _ _).alloc (Nat.le_refl _) _⟩

theorem RdPts.of_blk {w : World} {g : Nat} {t : TypeId} {a b c d : Int} (h : Blk w g t #[.int .i64 a, .int .i64 b, .int .i64 c, .int .i64 d]) : RdPts w (some ⟨g, 0, none⟩) 2 [(a, b), (c, d)] := by
  refine ⟨rfl, by decide, fun _ => ⟨g, 0, rfl, h.lt, fun i x y hi => ?_⟩⟩
  match i, hi with
  | 0, hi =>
    simp at hi
    obtain ⟨rfl, rfl⟩ := hi
    exact ⟨by rw [h.cell]; rfl, by rw [h.cell]; rfl⟩
  | 1, hi =>
    simp at hi
    obtain ⟨rfl, rfl⟩ := hi
    exact ⟨by rw [h.cell]; rfl, by rw [h.cell]; rfl⟩
  | i + 2, hi => simp at hi

set_option maxHeartbeats 2000000 in
theorem awake_any (w : World) : Calls Try.prog 12 #[] w fun e w' => e = .returned (.bool true) ∧ Below w.heap.size w w' := by
  go_enter Try.func12, Try.ntmps12
  go_wp2_with fail
  refine (rint_any _ _).mono ?_
  rintro e w1 ⟨rfl, hb1⟩
  go_wp2_with fail
  refine (rint_any _ _).mono ?_
  rintro e w2 ⟨rfl, hb2⟩
  go_wp2_with fail
  refine (rlist_any _ _ _ _).mono ?_
  rintro e w3 ⟨rfl, hb3⟩
  go_wp2_with fail
  have B0 : Blk w3 w.heap.size 27 #[.int .i64 3, .int .i64 4] := ((((Blk.new_at rfl).step hb1).step hb2).alloc _).step hb3
  have B1 := (Blk.new w2 25 #[Value.int IntKind.i64 3, Value.int IntKind.i64 3, .string ByteArray.empty, .slice none 0 0, .slice none 0 0, Value.int IntKind.i64 3, Value.int IntKind.i64 4, .string ByteArray.empty, .slice none 0 0, .slice none 0 0]).step hb3
  have B2 : Below w.heap.size w w3 := ((((((Below.refl _ _).alloc (Nat.le_refl _) _).step' hb1).step' hb2).alloc (by have := hb1.size; have := hb2.size; simp at *; omega) _)).step' hb3
  have v0 : VAt w3 w2.heap.size 0 ⟨3, 3, ByteArray.empty, none, 0, 0, none, 0, 0⟩ := by refine ⟨?_, ?_, ?_, ?_, ?_⟩ <;> rw [B1.cell] <;> rfl
  have v1 : VAt w3 w2.heap.size (0 + 5) ⟨3, 4, ByteArray.empty, none, 0, 0, none, 0, 0⟩ := by refine ⟨?_, ?_, ?_, ?_, ?_⟩ <;> rw [B1.cell] <;> rfl
  have PS : PSel 26 w3 ⟨6, 0, ByteArray.empty, some ⟨w2.heap.size, 0, none⟩, 2, 2, none, 0, 0⟩ 3 3 3 4 := .list _ _ _ _ rfl rfl rfl v0 v1 ⟨rfl, rfl, rfl, rfl⟩
  clear hb1 hb2 hb3 v0 v1 B1
  refine (point_any _ _ _ _ _ _ PS).mono ?_
  rintro e w4 ⟨rfl, hb4⟩
  have hr : ptRes 3 3 3 4 = .tuple #[pt 3 4, .int .i64 0] := rfl
  rw [hr]
  have B3 := B0.step hb4
  have B4 := B2.step' hb4
  have J3 := Lib.hid B3
  have J4 := Lib.hid B4
  have l0 := B3.lt
  have e0 := B3.cell 0
  have e1 := B3.cell 1
  simp at e0 e1
  clear PS hb4 B0 B2 hr B3 B4
  go_wp2_with fail
  have B1 : Blk (((w4.alloc (Obj.cells #[Value.int IntKind.i64 3, Value.int IntKind.i64 4] 27)).alloc (Obj.cells #[Value.int IntKind.i64 3, Value.int IntKind.i64 4, Value.int IntKind.i64 3, Value.int IntKind.i64 4] 27)).alloc (Obj.cells #[Value.int IntKind.i64 1, Value.slice (some ⟨w4.heap.size + 1, 0, none⟩) 2 2, Value.int IntKind.i64 0] 35)) (w4.heap.size + 1) 27 #[Value.int IntKind.i64 3, Value.int IntKind.i64 4, Value.int IntKind.i64 3, Value.int IntKind.i64 4] :=
    (Blk.new_at (by simp)).alloc _
  have BS : Blk (((w4.alloc (Obj.cells #[Value.int IntKind.i64 3, Value.int IntKind.i64 4] 27)).alloc (Obj.cells #[Value.int IntKind.i64 3, Value.int IntKind.i64 4, Value.int IntKind.i64 3, Value.int IntKind.i64 4] 27)).alloc (Obj.cells #[Value.int IntKind.i64 1, Value.slice (some ⟨w4.heap.size + 1, 0, none⟩) 2 2, Value.int IntKind.i64 0] 35)) (w4.heap.size + 2) 35 #[Value.int IntKind.i64 1, Value.slice (some ⟨w4.heap.size + 1, 0, none⟩) 2 2, Value.int IntKind.i64 0] :=
    Blk.new_at (by simp)
  have BP := ((Blk.new w4 27 #[Value.int IntKind.i64 3, Value.int IntKind.i64 4]).alloc (Obj.cells #[Value.int IntKind.i64 3, Value.int IntKind.i64 4, Value.int IntKind.i64 3, Value.int IntKind.i64 4] 27)).alloc (Obj.cells #[Value.int IntKind.i64 1, Value.slice (some ⟨w4.heap.size + 1, 0, none⟩) 2 2, Value.int IntKind.i64 0] 35)
  have BW4 : Below w.heap.size w (((w4.alloc (Obj.cells #[Value.int IntKind.i64 3, Value.int IntKind.i64 4] 27)).alloc (Obj.cells #[Value.int IntKind.i64 3, Value.int IntKind.i64 4, Value.int IntKind.i64 3, Value.int IntKind.i64 4] 27)).alloc (Obj.cells #[Value.int IntKind.i64 1, Value.slice (some ⟨w4.heap.size + 1, 0, none⟩) 2 2, Value.int IntKind.i64 0] 35)) :=
    (((J4.out.alloc J4.out.size _).alloc (by have := J4.out.size; simp; omega) _).alloc (by have := J4.out.size; simp; omega) _)
  have B0 := ((J3.out.alloc (Obj.cells #[Value.int IntKind.i64 3, Value.int IntKind.i64 4] 27)).alloc (Obj.cells #[Value.int IntKind.i64 3, Value.int IntKind.i64 4, Value.int IntKind.i64 3, Value.int IntKind.i64 4] 27)).alloc (Obj.cells #[Value.int IntKind.i64 1, Value.slice (some ⟨w4.heap.size + 1, 0, none⟩) 2 2, Value.int IntKind.i64 0] 35)
  refine (cover_one _ _ 3 4 (by decide) _ (RdPts.of_blk B1)).mono ?_
  rintro e w5 ⟨g, cap, rfl, hg, q0, q1, hb5⟩
  have C0 := B0.step hb5
  have C1 := B1.step hb5
  have CS := BS.step hb5
  have CP := BP.step hb5
  have C4 := BW4.step' hb5
  clear B0 B1 BS BP BW4 hb5 J3 J4 e0 e1 l0 hg
  have e0 := C0.cell 0
  have e1 := C0.cell 1
  have p0 := CP.cell 0
  have p1 := CP.cell 1
  have s0 := CS.cell 0
  have s1 := CS.cell 1
  have s2 := CS.cell 2
  simp at e0 e1 p0 p1 s0 s1 s2
  have J4 := Lib.hid C4
  have JP := Lib.hid (RdPts.of_blk C1)
  clear C0 C1 CS CP C4
  generalize hq : cellI 3 4 = q at *
  clear hq
  go_wp2_with fail
  have E0 : ∀ k : BW w5, k.val.cell? ⟨w.heap.size, 0, none⟩ = _ := fun k => k.cell e0
  have E1 : ∀ k : BW w5, k.val.cell? ⟨w.heap.size, 1, none⟩ = _ := fun k => k.cell e1
  have P0 : ∀ k : BW w5, k.val.cell? ⟨w4.heap.size, 0, none⟩ = _ := fun k => k.cell p0
  have P1 : ∀ k : BW w5, k.val.cell? ⟨w4.heap.size, 1, none⟩ = _ := fun k => k.cell p1
  have S0 : ∀ k : BW w5, k.val.cell? ⟨w4.heap.size + 2, 0, none⟩ = _ := fun k => k.cell s0
  have S1 : ∀ k : BW w5, k.val.cell? ⟨w4.heap.size + 2, 1, none⟩ = _ := fun k => k.cell s1
  have S2 : ∀ k : BW w5, k.val.cell? ⟨w4.heap.size + 2, 2, none⟩ = _ := fun k => k.cell s2
  have Q0 : ∀ k : BW w5, k.val.cell? ⟨g, 0, none⟩ = _ := fun k => k.cell q0
  have Q1 : ∀ k : BW w5, k.val.cell? ⟨g, 1, none⟩ = _ := fun k => k.cell q1
  have K1 : Hid (∀ k : BW w5, Calls Try.prog 15 #[shp 1 (some ⟨w4.heap.size + 1, 0, none⟩) 2 2 0] k.val fun e w'' => e = .returned (.int .i64 0) ∧ ∃ k : BW w5, w'' = k.val) := fun k => by
    have h := Calls.bw (k := k) (valid_any 1 (some ⟨w4.heap.size + 1, 0, none⟩) 2 2 0 _ _ (JP.out.below k.below))
    rwa [show errOf (validB 1 [(3, 4), (3, 4)] 0) = 0 from by decide] at h
  have K2 : Hid (∀ k : BW w5, Calls Try.prog 13 #[shp 1 (some ⟨w4.heap.size + 1, 0, none⟩) 2 2 0, pt 3 4] k.val fun e w'' => e = .returned (.bool true) ∧ ∃ k : BW w5, w'' = k.val) := fun k => by
    have h := Calls.bw (k := k) (inside_any 1 (some ⟨w4.heap.size + 1, 0, none⟩) 2 2 0 _ 3 4 _ (JP.out.below k.below))
    rwa [show insideB 1 [(3, 4), (3, 4)] 0 3 4 = true from by decide] at h
  have K3 : Hid (∀ k : BW w5, Calls Try.prog 13 #[shp 1 (some ⟨w4.heap.size + 1, 0, none⟩) 2 2 0, pt 0 0] k.val fun e w'' => e = .returned (.bool false) ∧ ∃ k : BW w5, w'' = k.val) := fun k => by
    have h := Calls.bw (k := k) (inside_any 1 (some ⟨w4.heap.size + 1, 0, none⟩) 2 2 0 _ 0 0 _ (JP.out.below k.below))
    rwa [show insideB 1 [(3, 4), (3, 4)] 0 0 0 = false from by decide] at h
  have K4 : Hid (∀ k : BW w5, Calls Try.prog 19 #[pt 3 4, pt 0 0] k.val fun e w'' => e = .returned (.int .i64 25) ∧ ∃ k : BW w5, w'' = k.val) := fun k => by
    have h := Calls.bw (k := k) (distance_any 3 4 0 0 _)
    rwa [show distI 3 4 0 0 = 25 from by decide] at h
  have K5 : Hid (∀ k : BW w5, Calls Try.prog 17 #[pt 2 1] k.val fun e w'' => e = .returned (.int .i64 6) ∧ ∃ k : BW w5, w'' = k.val) := fun k => by
    have h := Calls.bw (k := k) (cell_any 2 1 _)
    rwa [show cellI 2 1 = 6 from by decide +kernel] at h
  refine wp_region_bw (by kernel_rfl) (by kernel_rfl) ?_
  repeat (go_big_quiet_step (first | with_reducible exact K1.out _ | with_reducible exact K2.out _ | with_reducible exact K3.out _ | with_reducible exact K4.out _ | with_reducible exact K5.out _))
  refine wpQuiet_nil ?_
  rintro _ ⟨kw, rfl⟩
  clear E0 E1 P0 P1 S0 S1 S2 Q0 Q1
  go_wp2_with fail
  go_ret
  exact ⟨rfl, J4.out.step' kw.below⟩

end Go.Proofs.Ytefolbfopjfbcaa
