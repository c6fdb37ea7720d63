/- The walk of the law IntervalLaws. (Printed by gen_laws24.py.) -/
import Derived.Test.YtdmabhbhlnpkgaaDoorIvUnion
import Derived.Test.YtdmabhbhlnpkgaaDoorIvBaseC
import Derived.Test.YtdmabhbhlnpkgaaDoorIvBaseB
namespace Go.Proofs.YtdmabhbhlnpkgaaDoor
open Go.RowKit

/-- the list is the normal form of a set -/
def Nrm (S : Cut → Prop) (ys : List PI) : Prop := ∃ n, ys.map ivP = n.map ivOf ∧ IsNF S n
abbrev setI (ys : List PI) (a : Cut) : Prop := inS cmC a (spansL (ys.map ivP))
theorem Nrm.mem {S : Cut → Prop} {ys : List PI} (h : Nrm S ys) (a : Cut) : setI ys a ↔ S a := by
  obtain ⟨n, e, hn⟩ := h
  unfold setI
  rw [e, spansL_of hn.1.ne]
  exact hn.2 a
theorem Nrm.same {S T : Cut → Prop} {ys zs : List PI} (h : Nrm S ys) (k : Nrm T zs) (e : ∀ a, VC1 a → (S a ↔ T a)) : ys.map ivP = zs.map ivP := by
  obtain ⟨n, e1, h1⟩ := h
  obtain ⟨m, e2, h2⟩ := k
  exact norm_same e1 e2 h1 h2 e
theorem setI_range {ys : List PI} {a : Cut} (h : setI ys a) : cmC (vMin, false) a ≤ 0 ∧ cmC a (vMax, true) < 0 := inS_range spansL_ne h

set_option maxRecDepth 100000 in
set_option maxHeartbeats 4000000 in
theorem intervalLaws_walk (Aa : Option Addr) (ma ca : Nat) (ya : List PI) (Ab : Option Addr) (mb cb : Nat) (yb : List PI) (w : World) (hT : Tabs w) (ha : SI w Aa ma ca ya) (hb : SI w Ab mb cb yb) :
    Calls Tryd.prog 9 #[.slice Aa ma ca, .slice Ab mb cb] w fun e w' => e = .returned (.bool true) ∧ Below w.heap.size w w' := by
  have HT := Lib.hid hT
  have Sa := Lib.hid ha
  have Sb := Lib.hid hb
  have Z := Lib.hid (Below.refl w.heap.size w)
  clear hT ha hb
  go_enter Tryd.func9, Tryd.ntmps9
  go_wp2_with fail
  refine (few_any ya Aa ma ca _ Sa.out).mono ?_
  rintro e w1 ⟨r, rfl, h40, hb⟩
  replace HT := Lib.hid (HT.out.step hb)
  replace Sa := Lib.hid (Sa.out.step hb)
  replace Sb := Lib.hid (Sb.out.step hb)
  replace Z := Lib.hid (Z.out.step' hb)
  clear hb
  cases r
  · clear h40
    go_wp2_with fail
    refine (awake24_any _ HT.out).mono ?_
    rintro e w9 ⟨rfl, hb9⟩
    go_wp2_with fail
    go_ret
    exact ⟨rfl, Z.out.step' hb9⟩
  have h4a : ma ≤ 40 := h40 rfl
  clear h40
  go_wp2_with fail
  refine (few_any yb Ab mb cb _ Sb.out).mono ?_
  rintro e w2 ⟨r, rfl, h40, hb⟩
  replace HT := Lib.hid (HT.out.step hb)
  replace Sa := Lib.hid (Sa.out.step hb)
  replace Sb := Lib.hid (Sb.out.step hb)
  replace Z := Lib.hid (Z.out.step' hb)
  clear hb
  cases r
  · clear h40
    go_wp2_with fail
    refine (awake24_any _ HT.out).mono ?_
    rintro e w9 ⟨rfl, hb9⟩
    go_wp2_with fail
    go_ret
    exact ⟨rfl, Z.out.step' hb9⟩
  have h4b : mb ≤ 40 := h40 rfl
  clear h40
  by_cases h2a : ma ≤ 20
  rotate_left
  · have ga : (20 : Int) < (ma : Int) := by omega
    go_wp2_with fail
    refine (awake24_any _ HT.out).mono ?_
    rintro e w9 ⟨rfl, hb9⟩
    go_wp2_with fail
    go_ret
    exact ⟨rfl, Z.out.step' hb9⟩
  have ga : ¬ (20 : Int) < (ma : Int) := by omega
  by_cases h2b : mb ≤ 20
  rotate_left
  · have gb : (20 : Int) < (mb : Int) := by omega
    go_wp2_with fail
    refine (awake24_any _ HT.out).mono ?_
    rintro e w9 ⟨rfl, hb9⟩
    go_wp2_with fail
    go_ret
    exact ⟨rfl, Z.out.step' hb9⟩
  have gb : ¬ (20 : Int) < (mb : Int) := by omega
  go_wp2_with fail
  refine (rest_any ya Aa ma ca _ HT.out Sa.out (by omega)).mono ?_
  rintro e w3 ⟨Ax, mx, cx, yx, qx, rfl, he, hn, hmx, hs, hb⟩
  have Nx : Hid (Nrm _ yx) := Lib.hid ⟨_, he, hn⟩
  have Sx := Lib.hid hs
  replace HT := Lib.hid (HT.out.step hb)
  replace Sa := Lib.hid (Sa.out.step hb)
  replace Sb := Lib.hid (Sb.out.step hb)
  replace Z := Lib.hid (Z.out.step' hb)
  clear he hn hs hb
  go_wp2_with fail
  refine (rest_any yb Ab mb cb _ HT.out Sb.out (by omega)).mono ?_
  rintro e w4 ⟨Ay, my, cy, yy, qy, rfl, he, hn, hmy, hs, hb⟩
  have Ny : Hid (Nrm _ yy) := Lib.hid ⟨_, he, hn⟩
  have Sy := Lib.hid hs
  replace HT := Lib.hid (HT.out.step hb)
  replace Sa := Lib.hid (Sa.out.step hb)
  replace Sb := Lib.hid (Sb.out.step hb)
  replace Sx := Lib.hid (Sx.out.step hb)
  replace Z := Lib.hid (Z.out.step' hb)
  clear he hn hs hb
  go_wp2_with fail
  refine (rest_any yx Ax mx cx _ HT.out Sx.out (by omega)).mono ?_
  rintro e w5 ⟨Ar, mr, cr, yr, qr, rfl, he, hn, hmr, hs, hb⟩
  have Nr : Hid (Nrm _ yr) := Lib.hid ⟨_, he, hn⟩
  have Sr := Lib.hid hs
  replace HT := Lib.hid (HT.out.step hb)
  replace Sa := Lib.hid (Sa.out.step hb)
  replace Sb := Lib.hid (Sb.out.step hb)
  replace Sx := Lib.hid (Sx.out.step hb)
  replace Sy := Lib.hid (Sy.out.step hb)
  replace Z := Lib.hid (Z.out.step' hb)
  clear he hn hs hb
  go_wp2_with fail
  refine (normal_any ya Aa ma ca _ HT.out Sa.out (by omega)).mono ?_
  rintro e w6 ⟨An, mn, cn, yn, qn, rfl, he, hn, hmn, hs, hb⟩
  have Nn : Hid (Nrm _ yn) := Lib.hid ⟨_, he, hn⟩
  have Sn := Lib.hid hs
  replace HT := Lib.hid (HT.out.step hb)
  replace Sa := Lib.hid (Sa.out.step hb)
  replace Sb := Lib.hid (Sb.out.step hb)
  replace Sx := Lib.hid (Sx.out.step hb)
  replace Sy := Lib.hid (Sy.out.step hb)
  replace Sr := Lib.hid (Sr.out.step hb)
  replace Z := Lib.hid (Z.out.step' hb)
  clear he hn hs hb
  have HE : Hid (yr.map ivP = yn.map ivP) := Lib.hid (Nr.out.same Nn.out fun a _ => by
    rw [show inS cmC a (spansL (yx.map ivP)) ↔ _ from Nx.out.mem a]
    constructor
    · rintro ⟨h1, h2, h3⟩
      by_cases h : setI ya a
      · exact h
      · exact absurd ⟨h1, h2, h⟩ h3
    · intro h
      have := setI_range h
      exact ⟨this.1, this.2, fun k => k.2.2 h⟩)
  go_wp2_with fail
  refine (same24_eq yr yn Ar An mr mn cr cn _ Sr.out Sn.out HE.out).mono ?_
  rintro e w7 ⟨rfl, hb⟩
  replace HT := Lib.hid (HT.out.step hb)
  replace Sa := Lib.hid (Sa.out.step hb)
  replace Sb := Lib.hid (Sb.out.step hb)
  replace Sx := Lib.hid (Sx.out.step hb)
  replace Sy := Lib.hid (Sy.out.step hb)
  replace Sr := Lib.hid (Sr.out.step hb)
  replace Sn := Lib.hid (Sn.out.step hb)
  replace Z := Lib.hid (Z.out.step' hb)
  clear hb HE
  go_wp2_with fail
  refine (union_any ya yb Aa Ab ma ca mb cb _ HT.out Sa.out Sb.out (by omega) (by omega)).mono ?_
  rintro e w8 ⟨Au, mu, cu, yu, qu, rfl, he, hn, hmu, hs, hb⟩
  have Nu : Hid (Nrm _ yu) := Lib.hid ⟨_, he, hn⟩
  have Su := Lib.hid hs
  replace HT := Lib.hid (HT.out.step hb)
  replace Sa := Lib.hid (Sa.out.step hb)
  replace Sb := Lib.hid (Sb.out.step hb)
  replace Sx := Lib.hid (Sx.out.step hb)
  replace Sy := Lib.hid (Sy.out.step hb)
  replace Sr := Lib.hid (Sr.out.step hb)
  replace Sn := Lib.hid (Sn.out.step hb)
  replace Z := Lib.hid (Z.out.step' hb)
  clear he hn hs hb
  go_wp2_with fail
  refine (rest_any yu Au mu cu _ HT.out Su.out (by omega)).mono ?_
  rintro e w9 ⟨Av, mv, cv, yv, qv, rfl, he, hn, hmv, hs, hb⟩
  have Nv : Hid (Nrm _ yv) := Lib.hid ⟨_, he, hn⟩
  have Sv := Lib.hid hs
  replace HT := Lib.hid (HT.out.step hb)
  replace Sa := Lib.hid (Sa.out.step hb)
  replace Sb := Lib.hid (Sb.out.step hb)
  replace Sx := Lib.hid (Sx.out.step hb)
  replace Sy := Lib.hid (Sy.out.step hb)
  replace Sr := Lib.hid (Sr.out.step hb)
  replace Sn := Lib.hid (Sn.out.step hb)
  replace Su := Lib.hid (Su.out.step hb)
  replace Z := Lib.hid (Z.out.step' hb)
  clear he hn hs hb
  go_wp2_with fail
  refine (meet_any yx yy Ax Ay mx cx my cy _ HT.out Sx.out Sy.out (by omega) (by omega)).mono ?_
  rintro e w10 ⟨Am, mm, cm, ym, qm, rfl, he, hn, hmm, hs, hb⟩
  have Nm : Hid (Nrm _ ym) := Lib.hid ⟨_, he, hn⟩
  have Sm := Lib.hid hs
  replace HT := Lib.hid (HT.out.step hb)
  replace Sa := Lib.hid (Sa.out.step hb)
  replace Sb := Lib.hid (Sb.out.step hb)
  replace Sx := Lib.hid (Sx.out.step hb)
  replace Sy := Lib.hid (Sy.out.step hb)
  replace Sr := Lib.hid (Sr.out.step hb)
  replace Sn := Lib.hid (Sn.out.step hb)
  replace Su := Lib.hid (Su.out.step hb)
  replace Sv := Lib.hid (Sv.out.step hb)
  replace Z := Lib.hid (Z.out.step' hb)
  clear he hn hs hb
  have HE : Hid (yv.map ivP = ym.map ivP) := Lib.hid (Nv.out.same Nm.out fun a _ => by
    rw [show inS cmC a (spansL (yx.map ivP)) ↔ _ from Nx.out.mem a, show inS cmC a (spansL (yy.map ivP)) ↔ _ from Ny.out.mem a, show inS cmC a (spansL (yu.map ivP)) ↔ _ from Nu.out.mem a]
    constructor
    · rintro ⟨h1, h2, h3⟩
      exact ⟨⟨h1, h2, fun h => h3 (.inl h)⟩, h1, h2, fun h => h3 (.inr h)⟩
    · rintro ⟨⟨h1, h2, h3⟩, _, _, h4⟩
      exact ⟨h1, h2, fun h => h.elim h3 h4⟩)
  go_wp2_with fail
  refine (same24_eq yv ym Av Am mv mm cv cm _ Sv.out Sm.out HE.out).mono ?_
  rintro e w11 ⟨rfl, hb⟩
  replace HT := Lib.hid (HT.out.step hb)
  replace Sa := Lib.hid (Sa.out.step hb)
  replace Sb := Lib.hid (Sb.out.step hb)
  replace Sx := Lib.hid (Sx.out.step hb)
  replace Sy := Lib.hid (Sy.out.step hb)
  replace Sr := Lib.hid (Sr.out.step hb)
  replace Sn := Lib.hid (Sn.out.step hb)
  replace Su := Lib.hid (Su.out.step hb)
  replace Sv := Lib.hid (Sv.out.step hb)
  replace Sm := Lib.hid (Sm.out.step hb)
  replace Z := Lib.hid (Z.out.step' hb)
  clear hb HE
  go_wp2_with fail
  refine (meet_any ya yb Aa Ab ma ca mb cb _ HT.out Sa.out Sb.out (by omega) (by omega)).mono ?_
  rintro e w12 ⟨Ai, mi, ci, yi, qi, rfl, he, hn, hmi, hs, hb⟩
  have Ni : Hid (Nrm _ yi) := Lib.hid ⟨_, he, hn⟩
  have Si := Lib.hid hs
  replace HT := Lib.hid (HT.out.step hb)
  replace Sa := Lib.hid (Sa.out.step hb)
  replace Sb := Lib.hid (Sb.out.step hb)
  replace Sx := Lib.hid (Sx.out.step hb)
  replace Sy := Lib.hid (Sy.out.step hb)
  replace Sr := Lib.hid (Sr.out.step hb)
  replace Sn := Lib.hid (Sn.out.step hb)
  replace Su := Lib.hid (Su.out.step hb)
  replace Sv := Lib.hid (Sv.out.step hb)
  replace Sm := Lib.hid (Sm.out.step hb)
  replace Z := Lib.hid (Z.out.step' hb)
  clear he hn hs hb
  go_wp2_with fail
  refine (rest_any yi Ai mi ci _ HT.out Si.out (by omega)).mono ?_
  rintro e w13 ⟨Aj, mj, cj, yj, qj, rfl, he, hn, hmj, hs, hb⟩
  have Nj : Hid (Nrm _ yj) := Lib.hid ⟨_, he, hn⟩
  have Sj := Lib.hid hs
  replace HT := Lib.hid (HT.out.step hb)
  replace Sa := Lib.hid (Sa.out.step hb)
  replace Sb := Lib.hid (Sb.out.step hb)
  replace Sx := Lib.hid (Sx.out.step hb)
  replace Sy := Lib.hid (Sy.out.step hb)
  replace Sr := Lib.hid (Sr.out.step hb)
  replace Sn := Lib.hid (Sn.out.step hb)
  replace Su := Lib.hid (Su.out.step hb)
  replace Sv := Lib.hid (Sv.out.step hb)
  replace Sm := Lib.hid (Sm.out.step hb)
  replace Si := Lib.hid (Si.out.step hb)
  replace Z := Lib.hid (Z.out.step' hb)
  clear he hn hs hb
  go_wp2_with fail
  refine (union_any yx yy Ax Ay mx cx my cy _ HT.out Sx.out Sy.out (by omega) (by omega)).mono ?_
  rintro e w14 ⟨Ak, mk, ck, yk, qk, rfl, he, hn, hmk, hs, hb⟩
  have Nk : Hid (Nrm _ yk) := Lib.hid ⟨_, he, hn⟩
  have Sk := Lib.hid hs
  replace HT := Lib.hid (HT.out.step hb)
  replace Sa := Lib.hid (Sa.out.step hb)
  replace Sb := Lib.hid (Sb.out.step hb)
  replace Sx := Lib.hid (Sx.out.step hb)
  replace Sy := Lib.hid (Sy.out.step hb)
  replace Sr := Lib.hid (Sr.out.step hb)
  replace Sn := Lib.hid (Sn.out.step hb)
  replace Su := Lib.hid (Su.out.step hb)
  replace Sv := Lib.hid (Sv.out.step hb)
  replace Sm := Lib.hid (Sm.out.step hb)
  replace Si := Lib.hid (Si.out.step hb)
  replace Sj := Lib.hid (Sj.out.step hb)
  replace Z := Lib.hid (Z.out.step' hb)
  clear he hn hs hb
  have HE : Hid (yj.map ivP = yk.map ivP) := Lib.hid (Nj.out.same Nk.out fun a _ => by
    rw [show inS cmC a (spansL (yx.map ivP)) ↔ _ from Nx.out.mem a, show inS cmC a (spansL (yy.map ivP)) ↔ _ from Ny.out.mem a, show inS cmC a (spansL (yi.map ivP)) ↔ _ from Ni.out.mem a]
    constructor
    · rintro ⟨h1, h2, h3⟩
      by_cases h : setI ya a
      · exact .inr ⟨h1, h2, fun k => h3 ⟨h, k⟩⟩
      · exact .inl ⟨h1, h2, h⟩
    · rintro (⟨h1, h2, h3⟩ | ⟨h1, h2, h3⟩)
      · exact ⟨h1, h2, fun k => h3 k.1⟩
      · exact ⟨h1, h2, fun k => h3 k.2⟩)
  go_wp2_with fail
  refine (same24_eq yj yk Aj Ak mj mk cj ck _ Sj.out Sk.out HE.out).mono ?_
  rintro e w15 ⟨rfl, hb⟩
  replace HT := Lib.hid (HT.out.step hb)
  replace Sa := Lib.hid (Sa.out.step hb)
  replace Sb := Lib.hid (Sb.out.step hb)
  replace Sx := Lib.hid (Sx.out.step hb)
  replace Sy := Lib.hid (Sy.out.step hb)
  replace Sr := Lib.hid (Sr.out.step hb)
  replace Sn := Lib.hid (Sn.out.step hb)
  replace Su := Lib.hid (Su.out.step hb)
  replace Sv := Lib.hid (Sv.out.step hb)
  replace Sm := Lib.hid (Sm.out.step hb)
  replace Si := Lib.hid (Si.out.step hb)
  replace Sj := Lib.hid (Sj.out.step hb)
  replace Sk := Lib.hid (Sk.out.step hb)
  replace Z := Lib.hid (Z.out.step' hb)
  clear hb HE
  go_wp2_with fail
  refine (normal_any yx Ax mx cx _ HT.out Sx.out (by omega)).mono ?_
  rintro e w16 ⟨Al, ml, cl, yl, ql, rfl, he, hn, hml, hs, hb⟩
  have Nl : Hid (Nrm _ yl) := Lib.hid ⟨_, he, hn⟩
  have Sl := Lib.hid hs
  replace HT := Lib.hid (HT.out.step hb)
  replace Sa := Lib.hid (Sa.out.step hb)
  replace Sb := Lib.hid (Sb.out.step hb)
  replace Sx := Lib.hid (Sx.out.step hb)
  replace Sy := Lib.hid (Sy.out.step hb)
  replace Sr := Lib.hid (Sr.out.step hb)
  replace Sn := Lib.hid (Sn.out.step hb)
  replace Su := Lib.hid (Su.out.step hb)
  replace Sv := Lib.hid (Sv.out.step hb)
  replace Sm := Lib.hid (Sm.out.step hb)
  replace Si := Lib.hid (Si.out.step hb)
  replace Sj := Lib.hid (Sj.out.step hb)
  replace Sk := Lib.hid (Sk.out.step hb)
  replace Z := Lib.hid (Z.out.step' hb)
  clear he hn hs hb
  have HE : Hid (yl.map ivP = yx.map ivP) := Lib.hid (Nl.out.same Nx.out fun a _ => Nx.out.mem a)
  go_wp2_with fail
  refine (same24_eq yl yx Al Ax ml mx cl cx _ Sl.out Sx.out HE.out).mono ?_
  rintro e w17 ⟨rfl, hb⟩
  replace HT := Lib.hid (HT.out.step hb)
  replace Sa := Lib.hid (Sa.out.step hb)
  replace Sb := Lib.hid (Sb.out.step hb)
  replace Sx := Lib.hid (Sx.out.step hb)
  replace Sy := Lib.hid (Sy.out.step hb)
  replace Sr := Lib.hid (Sr.out.step hb)
  replace Sn := Lib.hid (Sn.out.step hb)
  replace Su := Lib.hid (Su.out.step hb)
  replace Sv := Lib.hid (Sv.out.step hb)
  replace Sm := Lib.hid (Sm.out.step hb)
  replace Si := Lib.hid (Si.out.step hb)
  replace Sj := Lib.hid (Sj.out.step hb)
  replace Sk := Lib.hid (Sk.out.step hb)
  replace Sl := Lib.hid (Sl.out.step hb)
  replace Z := Lib.hid (Z.out.step' hb)
  clear hb HE
  go_wp2_with fail
  refine (awake24_any _ HT.out).mono ?_
  rintro e w9 ⟨rfl, hb9⟩
  go_wp2_with fail
  go_ret
  exact ⟨rfl, Z.out.step' hb9⟩

end Go.Proofs.YtdmabhbhlnpkgaaDoor
