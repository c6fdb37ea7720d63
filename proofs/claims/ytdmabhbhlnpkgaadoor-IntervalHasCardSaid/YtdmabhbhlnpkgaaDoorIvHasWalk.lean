/- The walk of the law IntervalHas. -/
import Derived.Test.YtdmabhbhlnpkgaaDoorIvRefHas
import Derived.Test.YtdmabhbhlnpkgaaDoorIvBaseC
import Derived.Test.YtdmabhbhlnpkgaaDoorIvBaseB
namespace Go.Proofs.YtdmabhbhlnpkgaaDoor
open Go.RowKit

set_option maxRecDepth 100000 in
set_option maxHeartbeats 2000000 in
theorem intervalHas_walk (A : Option Addr) (n c : Nat) (is : List PI) (cv : VC) (v : Val) (w : World) (hT : Tabs w) (h : SI w A n c is) (hv : RW w cv v) :
    Calls Tryd.prog 4 #[.slice A n c, cv.val] w fun e w' => e = .returned (.bool true) ∧ Below w.heap.size w w' := by
  have HT := Lib.hid hT
  have H := Lib.hid h
  have HV := Lib.hid hv
  have A0 := Lib.hid ((Below.refl w.heap.size w).alloc (Nat.le_refl _) (Obj.cells cv.arr 30))
  have B0 : Hid (Blk (w.alloc (Obj.cells cv.arr 30)) w.heap.size 30 cv.arr) := Blk.new_at rfl
  clear hT h hv
  go_enter Tryd.func4, Tryd.ntmps4
  go_wp2_with fail
  refine (few_any is A n c _ (H.out.step A0.out)).mono ?_
  rintro e w1 ⟨r, rfl, h40, hb1⟩
  have Z1 := Lib.hid (A0.out.step' hb1)
  have B1 := Lib.hid (B0.out.step hb1)
  clear hb1 A0 B0
  cases r
  · clear h40
    go_wp2_with fail
    refine (awake24_any _ (HT.out.step Z1.out)).mono ?_
    rintro e w9 ⟨rfl, hb9⟩
    go_wp2_with fail
    go_ret
    exact ⟨rfl, Z1.out.step' hb9⟩
  have h4 : n ≤ 40 := h40 rfl
  clear h40
  obtain ⟨x0, x1, x2, x3, x4⟩ := VAt.of_blk B1.out
  go_wp2_with fail
  refine (fewV_any v cv _ 2000 (HV.out.step Z1.out) (by omega) (by omega)).mono ?_
  rintro e w2 ⟨r, rfl, hb2⟩
  have Z2 := Lib.hid (Z1.out.step' hb2)
  have B2 := Lib.hid (B1.out.step hb2)
  clear hb2 Z1 B1 x0 x1 x2 x3 x4
  cases r
  · go_wp2_with fail
    refine (awake24_any _ (HT.out.step Z2.out)).mono ?_
    rintro e w9 ⟨rfl, hb9⟩
    go_wp2_with fail
    go_ret
    exact ⟨rfl, Z2.out.step' hb9⟩
  obtain ⟨x0, x1, x2, x3, x4⟩ := VAt.of_blk B2.out
  have X0 : ∀ kk : BW w2, kk.val.cell? ⟨w.heap.size, 0, none⟩ = some (.int .i64 cv.k) := fun kk => kk.cell x0
  have X1 : ∀ kk : BW w2, kk.val.cell? ⟨w.heap.size, 1, none⟩ = some (.int .i64 cv.n) := fun kk => kk.cell x1
  have X2 : ∀ kk : BW w2, kk.val.cell? ⟨w.heap.size, 2, none⟩ = some (.string cv.t) := fun kk => kk.cell x2
  have X3 : ∀ kk : BW w2, kk.val.cell? ⟨w.heap.size, 3, none⟩ = some (.slice cv.LA cv.ln cv.lc) := fun kk => kk.cell x3
  have X4 : ∀ kk : BW w2, kk.val.cell? ⟨w.heap.size, 4, none⟩ = some (.slice cv.DA cv.dn cv.dc) := fun kk => kk.cell x4
  obtain ⟨r, hr⟩ : ∃ r, r = hasV (is.map ivP) v := ⟨_, rfl⟩
  have K1 : Hid (∀ kk : BW w2, Calls Tryd.prog 18 #[.slice A n c, cv.val] kk.val fun e w'' => e = .returned (.bool r) ∧ ∃ kk : BW w2, w'' = kk.val) := fun kk =>
    Calls.bw (by rw [hr]; exact has_any is A n c v cv kk.val ((HT.out.step Z2.out).step kk.below) ((H.out.step Z2.out).step kk.below) (by omega) ((HV.out.step Z2.out).step kk.below))
  have K2 : Hid (∀ kk : BW w2, Calls Tryd.prog 19 #[.slice A n c, cv.val] kk.val fun e w'' => e = .returned (.bool r) ∧ ∃ kk : BW w2, w'' = kk.val) := fun kk =>
    Calls.bw (by rw [hr]; exact rhas_any is A n c v cv kk.val ((H.out.step Z2.out).step kk.below) ((HV.out.step Z2.out).step kk.below))
  have K3 : Hid (∀ kk : BW w2, Calls Tryd.prog 11 #[] kk.val fun e w'' => e = .returned (.bool true) ∧ ∃ kk : BW w2, w'' = kk.val) := fun kk =>
    Calls.bw (awake24_any kk.val ((HT.out.step Z2.out).step kk.below))
  clear x0 x1 x2 x3 x4 hr
  have hrr : (r == r) = true := by simp
  go_upto_region 3 with fail
  refine wp_region_bw (by kernel_rfl) (by kernel_rfl) ?_
  repeat (go_big_quiet_step (first | (with_reducible exact K1.out _) | (with_reducible exact K2.out _) | (with_reducible exact K3.out _)))
  refine wpQuiet_nil ?_
  rintro _ ⟨kw, rfl⟩
  have Z3 := Lib.hid (Z2.out.step' kw.below)
  clear X0 X1 X2 X3 X4 K1 K2 K3
  generalize kw.val = w3 at *
  go_wp2_with fail
  go_ret
  exact ⟨rfl, Z3.out⟩

end Go.Proofs.YtdmabhbhlnpkgaaDoor
