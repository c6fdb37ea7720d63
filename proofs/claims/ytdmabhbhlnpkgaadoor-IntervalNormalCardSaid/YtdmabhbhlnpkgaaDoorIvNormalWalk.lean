/- The walk of the law IntervalNormal. (Printed by gen_normal24.py.) -/
import Derived.Test.YtdmabhbhlnpkgaaDoorIvRefA
namespace Go.Proofs.YtdmabhbhlnpkgaaDoor
open Go.RowKit

set_option maxRecDepth 100000 in
set_option maxHeartbeats 4000000 in
theorem intervalNormal_walk (Aa : Option Addr) (ma ca : Nat) (ya : List PI) (w : World) (hT : Tabs w) (ha : SI w Aa ma ca ya) :
    Calls Tryd.prog 3 #[.slice Aa ma ca] w fun e w' => e = .returned (.bool true) ∧ Below w.heap.size w w' := by
  have HT := Lib.hid hT
  have Sa := Lib.hid ha
  have Z := Lib.hid (Below.refl w.heap.size w)
  clear hT ha
  go_enter Tryd.func3, Tryd.ntmps3
  go_wp2_with fail
  refine (few_any ya Aa ma ca _ Sa.out).mono ?_
  rintro e w1 ⟨r, rfl, h40, hb⟩
  replace HT := Lib.hid (HT.out.step hb)
  replace Sa := Lib.hid (Sa.out.step hb)
  replace Z := Lib.hid (Z.out.step' hb)
  clear hb
  cases r
  · clear h40
    go_wp2_with fail
    refine (awake24_any _ HT.out).mono ?_
    rintro e w9 ⟨rfl, hb9⟩
    go_wp2_with fail
    go_ret
    exact ⟨rfl, Z.out.step' hb9⟩
  have h4a : ma ≤ 40 := h40 rfl
  clear h40
  go_wp2_with fail
  refine (normal_any ya Aa ma ca _ HT.out Sa.out (by omega)).mono ?_
  rintro e w2 ⟨Ax, mx, cx, yx, qx, rfl, he, hn, hmx, hs, hb⟩
  have Nx : Hid (Nrm _ yx) := Lib.hid ⟨_, he, hn⟩
  have Sx := Lib.hid hs
  replace HT := Lib.hid (HT.out.step hb)
  replace Sa := Lib.hid (Sa.out.step hb)
  replace Z := Lib.hid (Z.out.step' hb)
  clear he hn hs hb
  go_wp2_with fail
  refine (rnormal_any ya Aa ma ca _ Sa.out (by omega)).mono ?_
  rintro e w3 ⟨Ay, my, cy, yy, qy, rfl, he, hn, hmy, hs, hb⟩
  have Ny : Hid (Nrm _ yy) := Lib.hid ⟨_, he, hn⟩
  have Sy := Lib.hid hs
  replace HT := Lib.hid (HT.out.step hb)
  replace Sa := Lib.hid (Sa.out.step hb)
  replace Sx := Lib.hid (Sx.out.step hb)
  replace Z := Lib.hid (Z.out.step' hb)
  clear he hn hs hb
  have HE : Hid (yx.map ivP = yy.map ivP) := Lib.hid (Nx.out.same Ny.out fun _ _ => Iff.rfl)
  go_wp2_with fail
  refine (same24_eq yx yy Ax Ay mx my cx cy _ Sx.out Sy.out HE.out).mono ?_
  rintro e w4 ⟨rfl, hb⟩
  replace HT := Lib.hid (HT.out.step hb)
  replace Sa := Lib.hid (Sa.out.step hb)
  replace Sx := Lib.hid (Sx.out.step hb)
  replace Sy := Lib.hid (Sy.out.step hb)
  replace Z := Lib.hid (Z.out.step' hb)
  clear hb HE
  go_wp2_with fail
  refine (rest_any ya Aa ma ca _ HT.out Sa.out (by omega)).mono ?_
  rintro e w5 ⟨Au, mu, cu, yu, qu, rfl, he, hn, hmu, hs, hb⟩
  have Nu : Hid (Nrm _ yu) := Lib.hid ⟨_, he, hn⟩
  have Su := Lib.hid hs
  replace HT := Lib.hid (HT.out.step hb)
  replace Sa := Lib.hid (Sa.out.step hb)
  replace Sx := Lib.hid (Sx.out.step hb)
  replace Sy := Lib.hid (Sy.out.step hb)
  replace Z := Lib.hid (Z.out.step' hb)
  clear he hn hs hb
  go_wp2_with fail
  refine (rrest_any ya Aa ma ca _ Sa.out (by omega)).mono ?_
  rintro e w6 ⟨Av, mv, cv, yv, qv, rfl, he, hn, hmv, hs, hb⟩
  have Nv : Hid (Nrm _ yv) := Lib.hid ⟨_, he, hn⟩
  have Sv := Lib.hid hs
  replace HT := Lib.hid (HT.out.step hb)
  replace Sa := Lib.hid (Sa.out.step hb)
  replace Sx := Lib.hid (Sx.out.step hb)
  replace Sy := Lib.hid (Sy.out.step hb)
  replace Su := Lib.hid (Su.out.step hb)
  replace Z := Lib.hid (Z.out.step' hb)
  clear he hn hs hb
  have HE : Hid (yu.map ivP = yv.map ivP) := Lib.hid (Nu.out.same Nv.out fun _ _ => Iff.rfl)
  go_wp2_with fail
  refine (same24_eq yu yv Au Av mu mv cu cv _ Su.out Sv.out HE.out).mono ?_
  rintro e w7 ⟨rfl, hb⟩
  replace HT := Lib.hid (HT.out.step hb)
  replace Sa := Lib.hid (Sa.out.step hb)
  replace Sx := Lib.hid (Sx.out.step hb)
  replace Sy := Lib.hid (Sy.out.step hb)
  replace Su := Lib.hid (Su.out.step hb)
  replace Sv := Lib.hid (Sv.out.step hb)
  replace Z := Lib.hid (Z.out.step' hb)
  clear hb HE
  go_wp2_with fail
  refine (awake24_any _ HT.out).mono ?_
  rintro e w9 ⟨rfl, hb9⟩
  go_wp2_with fail
  go_ret
  exact ⟨rfl, Z.out.step' hb9⟩

end Go.Proofs.YtdmabhbhlnpkgaaDoor
