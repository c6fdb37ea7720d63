/- The contract of interval.compare, and of the closure by which spans are sorted. -/
import Derived.Test.YtdmabhbhlnpkgaaDoorIvRec
import Derived.Test.YtdmabhbhlnpkgaaDoorValCmp
namespace Go.Proofs.YtdmabhbhlnpkgaaDoor
open Go.RowKit

theorem cmC_zero {a b : Cut} (h : cmpV a.1 b.1 = 0) : cmC a b = cmB a.2 b.2 := by unfold cmC lex; rw [if_neg (by simpa using h)]
theorem cmC_ne {a b : Cut} (h : cmpV a.1 b.1 ≠ 0) : cmC a b = cmpV a.1 b.1 := by unfold cmC lex; rw [if_pos h]

set_option maxHeartbeats 1000000 in
theorem compare_any (p q : PC) (w : World) (hp : okC w p) (hq : okC w q) :
    Calls Tryd.prog 39 #[aggC p, aggC q] w fun e w' => e = .returned (.int .i64 (cmC (cutP p) (cutP q))) ∧ Below w.heap.size w w' := by
  have HP := Lib.hid hp
  have HQ := Lib.hid hq
  have Z2 := Lib.hid (((Below.refl w.heap.size w).alloc (Nat.le_refl _) (Obj.cells (arrC p) 52)).alloc (by simp) (Obj.cells (arrC q) 52))
  have B0 : Hid (Blk ((w.alloc (Obj.cells (arrC p) 52)).alloc (Obj.cells (arrC q) 52)) w.heap.size 52 (arrC p)) := (Blk.new_at rfl).alloc _
  have B1 : Hid (Blk ((w.alloc (Obj.cells (arrC p) 52)).alloc (Obj.cells (arrC q) 52)) (w.heap.size + 1) 52 (arrC q)) := Blk.new_at (by simp)
  clear hp hq
  go_enter Tryd.func39, Tryd.ntmps39
  go_wp2_with fail
  refine (cmp_any p.1.2 q.1.2 p.1.1 q.1.1 _ (HP.out.step Z2.out) (HQ.out.step Z2.out)).mono ?_
  rintro e w1 ⟨rfl, hb1⟩
  have Z1 := Lib.hid (Z2.out.step' hb1)
  obtain ⟨_, p5⟩ := CAt.of_blk (B0.out.step hb1)
  obtain ⟨_, q5⟩ := CAt.of_blk (B1.out.step hb1)
  simp only [Nat.zero_add] at p5 q5
  clear hb1
  by_cases h0 : cmpV p.1.2 q.1.2 = 0
  · have HC : Hid (cmC (cutP p) (cutP q) = cmB p.2 q.2) := cmC_zero (a := cutP p) (b := cutP q) h0
    rw [h0]
    clear h0
    cases h1 : p.2 <;> cases h2 : q.2
    all_goals
      rw [h1] at p5
      rw [h2] at q5
      rw [h1, h2] at HC
      clear h1 h2
      go_wp2_with fail
      go_ret
      exact ⟨by rw [HC.out]; rfl, Z1.out⟩
  · have HC : Hid (cmC (cutP p) (cutP q) = cmpV p.1.2 q.1.2) := cmC_ne (a := cutP p) (b := cutP q) h0
    have h1 : (cmpV p.1.2 q.1.2 != 0) = true := by simpa using h0
    clear h0
    go_wp2_with fail
    go_ret
    exact ⟨by rw [HC.out]; rfl, Z1.out⟩

set_option maxHeartbeats 1000000 in
theorem mcmp_any (p q : PS) (w : World) (hp : okS w p) (hq : okS w q) :
    Calls Tryd.prog 53 #[aggS p, aggS q] w fun e w' => e = .returned (.int .i64 (cmC (spP p).1 (spP q).1)) ∧ Below w.heap.size w w' := by
  have HP := Lib.hid hp
  have HQ := Lib.hid hq
  have Z2 := Lib.hid (((Below.refl w.heap.size w).alloc (Nat.le_refl _) (Obj.cells (arrS p) 54)).alloc (by simp) (Obj.cells (arrS q) 54))
  clear hp hq
  go_enter Tryd.func53, Tryd.ntmps53
  go_wp2_with fail
  refine (compare_any p.1 q.1 _ (HP.out.step Z2.out).1 (HQ.out.step Z2.out).1).mono ?_
  rintro e w1 ⟨rfl, hb1⟩
  go_wp2_with fail
  go_ret
  exact ⟨rfl, Z2.out.step' hb1⟩

end Go.Proofs.YtdmabhbhlnpkgaaDoor
