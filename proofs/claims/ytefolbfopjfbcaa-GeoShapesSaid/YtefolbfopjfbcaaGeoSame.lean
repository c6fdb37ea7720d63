/- docstorelaw10.same at two shapes that read alike. -/
import Derived.Test.YtefolbfopjfbcaaGeoRefParse
namespace Go.Proofs.Ytefolbfopjfbcaa
open Go.RowKit
set_option linter.unusedSimpArgs false

structure SaInv (w : World) (k : Int) (A B : Option Addr) (n c d : Nat) (r : Int) (wr : World) : Prop where
  b0 : Blk wr w.heap.size 35 #[.int .i64 k, .slice A n c, .int .i64 r]
  b1 : Blk wr (w.heap.size + 1) 35 #[.int .i64 k, .slice B n d, .int .i64 r]
  bel : Below w.heap.size w wr

set_option maxRecDepth 100000 in
set_option maxHeartbeats 1000000 in
theorem same_any (k : Int) (A B : Option Addr) (n c d : Nat) (r : Int) (ps : List (Int × Int)) (w : World) (h1 : RdPts w A n ps) (h2 : RdPts w B n ps) :
    Calls Try.prog 25 #[shp k A n c r, shp k B n d r] w fun e w' => e = .returned (.bool true) ∧ Below w.heap.size w w' := by
  have H1 := Lib.hid h1
  have H2 := Lib.hid h2
  have hn := h1.2.1
  unfold maxLen at hn
  clear h1 h2
  go_enter Try.func25, Try.ntmps25
  go_wp2_with fail
  go_loopw [5] (fun v5 wr => ∃ (i : Nat), i ≤ n ∧ v5 = .int .i64 i ∧ SaInv w k A B n c d r wr) (fun v5 _ => n - (intOf v5).toNat)
  case atStart => exact ⟨0, Nat.zero_le _, rfl, (Blk.new_at rfl).alloc _, Blk.new_at (by simp), ((Below.refl _ _).alloc (Nat.le_refl _) _).alloc (by simp) _⟩
  case round =>
    obtain ⟨i, hi, rfl, I⟩ := hrel
    have J := Lib.hid I
    have q0 := I.b0.cell 1
    have q1 := I.b1.cell 1
    simp at q0 q1
    by_cases hlt : i < n
    · obtain ⟨⟨x, y⟩, hy⟩ : ∃ y, ps[i]? = some y := ⟨_, List.getElem?_eq_getElem (by have := H1.out.1; omega)⟩
      obtain ⟨b, off, rfl, hb, hc⟩ := (H1.out.below I.bel).2.2 (by omega)
      obtain ⟨b', off', rfl, hb', hc'⟩ := (H2.out.below I.bel).2.2 (by omega)
      obtain ⟨a0, a1⟩ := hc i x y hy
      obtain ⟨a2, a3⟩ := hc' i x y hy
      clear hc hc' hy I
      go_upto_region 6 with fail
      go_region
      all_goals
        go_wp2_with fail
        refine ⟨⟨i + 1, by omega, by go_num, J.out.b0.drew, J.out.b1.drew, J.out.bel.drew⟩, ?_⟩
        simp [intOf]
        omega
    · obtain rfl : i = n := by omega
      clear I
      go_wp2_with fail
      go_ret
      exact ⟨rfl, J.out.bel⟩

end Go.Proofs.Ytefolbfopjfbcaa
