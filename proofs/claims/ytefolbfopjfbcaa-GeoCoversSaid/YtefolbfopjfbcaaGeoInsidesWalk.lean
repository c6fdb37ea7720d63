/- The walk of the law GeoInsides. -/
import Derived.Test.YtefolbfopjfbcaaGeoEq
import Derived.Test.YtefolbfopjfbcaaGeoShape
namespace Go.Proofs.Ytefolbfopjfbcaa
open Go.RowKit

structure ShInv (w : World) (k : Int) (A : Option Addr) (n c : Nat) (r x y : Int) (wr : World) : Prop where
  b0 : Blk wr w.heap.size 35 #[.int .i64 k, .slice A n c, .int .i64 r]
  b1 : Blk wr (w.heap.size + 1) 27 #[.int .i64 x, .int .i64 y]
  bel : Below w.heap.size w wr

theorem ShInv.step {w wr w' : World} {k : Int} {A : Option Addr} {n c : Nat} {r x y : Int} (h : ShInv w k A n c r x y wr) (hb : Below wr.heap.size wr w') : ShInv w k A n c r x y w' := ⟨h.b0.step hb, h.b1.step hb, h.bel.step' hb⟩
theorem ShInv.cells {w wr : World} {k : Int} {A : Option Addr} {n c : Nat} {r x y : Int} (h : ShInv w k A n c r x y wr) :
    wr.cell? ⟨w.heap.size, 0, none⟩ = some (.int .i64 k) ∧ wr.cell? ⟨w.heap.size, 1, none⟩ = some (.slice A n c) ∧ wr.cell? ⟨w.heap.size, 2, none⟩ = some (.int .i64 r) ∧ wr.cell? ⟨w.heap.size + 1, 0, none⟩ = some (.int .i64 x) ∧ wr.cell? ⟨w.heap.size + 1, 1, none⟩ = some (.int .i64 y) :=
  ⟨h.b0.cell 0, h.b0.cell 1, h.b0.cell 2, h.b1.cell 0, h.b1.cell 1⟩

set_option maxHeartbeats 1000000 in
theorem geoInsides_walk (k : Int) (A : Option Addr) (n c : Nat) (r : Int) (ps : List (Int × Int)) (x y : Int) (w : World) (h : RdPts w A n ps) :
    Calls Try.prog 4 #[shp k A n c r, pt x y] w fun e w' => e = .returned (.bool true) ∧ Below w.heap.size w w' := by
  have H := Lib.hid h
  clear h
  go_enter Try.func4, Try.ntmps4
  go_wp2_with fail
  have I0 : ShInv w k A n c r x y ((w.alloc (Obj.cells #[Value.int IntKind.i64 k, Value.slice A n c, Value.int IntKind.i64 r] 35)).alloc (Obj.cells #[Value.int IntKind.i64 x, Value.int IntKind.i64 y] 27)) :=
    ⟨(Blk.new_at rfl).alloc _, Blk.new_at (by simp), ((Below.refl _ _).alloc (Nat.le_refl _) _).alloc (by simp) _⟩
  generalize ((w.alloc (Obj.cells #[Value.int IntKind.i64 k, Value.slice A n c, Value.int IntKind.i64 r] 35)).alloc (Obj.cells #[Value.int IntKind.i64 x, Value.int IntKind.i64 y] 27)) = w1 at *
  have E0 : ∀ q : BW w1, q.val.cell? ⟨w.heap.size, 0, none⟩ = some (.int .i64 k) := fun q => q.cell (I0.b0.cell 0)
  have E1 : ∀ q : BW w1, q.val.cell? ⟨w.heap.size, 1, none⟩ = some (.slice A n c) := fun q => q.cell (I0.b0.cell 1)
  have E2 : ∀ q : BW w1, q.val.cell? ⟨w.heap.size, 2, none⟩ = some (.int .i64 r) := fun q => q.cell (I0.b0.cell 2)
  have E3 : ∀ q : BW w1, q.val.cell? ⟨w.heap.size + 1, 0, none⟩ = some (.int .i64 x) := fun q => q.cell (I0.b1.cell 0)
  have E4 : ∀ q : BW w1, q.val.cell? ⟨w.heap.size + 1, 1, none⟩ = some (.int .i64 y) := fun q => q.cell (I0.b1.cell 1)
  have K1 : Hid (∀ q : BW w1, Calls Try.prog 13 #[shp k A n c r, pt x y] q.val fun e w'' => e = .returned (.bool (insideB k ps r x y)) ∧ ∃ q : BW w1, w'' = q.val) := fun q =>
    Calls.bw (inside_any k A n c r ps x y _ ((H.out.below I0.bel).below q.below))
  have K2 : Hid (∀ q : BW w1, Calls Try.prog 14 #[shp k A n c r, pt x y] q.val fun e w'' => e = .returned (.bool (insideB k ps r x y)) ∧ ∃ q : BW w1, w'' = q.val) := fun q => by
    rw [inside_same]
    exact Calls.bw (rinside_any k A n c r ps x y _ ((H.out.below I0.bel).below q.below))
  have J := Lib.hid I0.bel
  clear I0
  refine wp_region_bw (by kernel_rfl) (by kernel_rfl) ?_
  repeat (go_big_quiet_step (first | with_reducible exact K1.out _ | with_reducible exact K2.out _ | with_reducible exact Calls.bw (awake_any _)))
  refine wpQuiet_nil ?_
  rintro _ ⟨kw, rfl⟩
  clear E0 E1 E2 E3 E4
  go_wp2_with fail
  go_ret
  exact ⟨rfl, J.out.step' kw.below⟩

end Go.Proofs.Ytefolbfopjfbcaa
