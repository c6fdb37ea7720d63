/- interval.Union: slices.Grow and slices.Concat of two lists of intervals. · The walk of the law IntervalLaws. (Printed by gen_laws24.py.) -/
import Derived.Test.YtdmabhbhlnpkgaaDoorIvBaseA
import Derived.Lib.AppendZerosOnto
import Derived.Test.YtdmabhbhlnpkgaaDoorIvBaseC
import Derived.Test.YtdmabhbhlnpkgaaDoorIvBaseB
namespace Go.Proofs.YtdmabhbhlnpkgaaDoor
open Go.RowKit

set_option maxRecDepth 100000 in
set_option maxHeartbeats 1000000 in
theorem growI_any (n : Nat) (w : World) (hn : n ≤ 1000000) :
    Calls Tryd.prog 62 #[.slice none 0 0, .int .i64 n] w fun e w' => ∃ v, e = .returned v ∧ w'.ownsRow w.heap.size 37 12 v 0 (flat recI []) ∧ Below w.heap.size w w' := by
  obtain ⟨i0, hi0, hz0, hz1, hz2⟩ := info_parts info_interval
  rcases Nat.eq_zero_or_pos n with rfl | h0
  · go_enter Tryd.func62, Tryd.ntmps62
    go_wp2_with fail
    go_ret
    exact ⟨_, rfl, own_nil _ _ _ _, Below.refl _ _⟩
  · have hold : (Builtin.firstCells i0.size 0 (.slice none 0 0)).run Tryd.prog w.drew = .ok ([] : List Value).toArray w.drew := run_firstCells_none w.drew i0.size 0 0 0
    have hrz : ∀ ty, (Builtin.append_ #[22, 3] ty #[.slice none 0 0, .int .i64 (n : Int)]).run Tryd.prog w =
        .ok (.slice (some ⟨w.heap.size, 0, none⟩) n (grownCap w n 0 37)) (w.drew.alloc (.cells (Builtin.zeroCells (aggI (((VC.zero, Val.zero), (VC.zero, Val.zero)), (false, false))).cells n ++ Builtin.zeroCells (aggI (((VC.zero, Val.zero), (VC.zero, Val.zero)), (false, false))).cells (grownCap w n 0 37 - n)) 37)) := fun ty => by
      have h := Lib.run_append_grow_zeros w 22 3 ty 37 i0 _ .i64 .i64 Tryd.underlying22 Tryd.underlying3 hi0 hz0 none 0 0 [] hold n h0 (by omega) (by omega) (by omega) (by rw [hz2]; omega) (by rw [Nat.zero_add]; exact growslice_fits h0 (by rw [hz2]; omega))
      simpa using h
    have hG1 : n ≤ grownCap w n 0 37 := grownCap_ge w _ _ _
    have hG2 := grownCap_le_maxLen w n 0 37 (by unfold maxLen; omega)
    have HC : Hid ((Builtin.zeroCells (aggI (((VC.zero, Val.zero), (VC.zero, Val.zero)), (false, false))).cells n ++ Builtin.zeroCells (aggI (((VC.zero, Val.zero), (VC.zero, Val.zero)), (false, false))).cells (grownCap w n 0 37 - n)).size = grownCap w n 0 37 * 12) := by
      unfold Hid
      rw [Array.size_append, size_zeroCells, size_zeroCells]
      show n * 12 + (_ - n) * 12 = _
      omega
    generalize Builtin.zeroCells (aggI (((VC.zero, Val.zero), (VC.zero, Val.zero)), (false, false))).cells n ++ Builtin.zeroCells (aggI (((VC.zero, Val.zero), (VC.zero, Val.zero)), (false, false))).cells (grownCap w n 0 37 - n) = cur at *
    generalize grownCap w n 0 37 = G at *
    have hG3 : (G : Int) ≤ 9223372036854775807 := by unfold maxLen at hG2; omega
    have HG := Lib.hid hG2
    clear hold hi0 hz0 hz1 hz2 hG2
    go_enter Tryd.func62, Tryd.ntmps62
    go_wp2_with (at_builtin; refine Lib.wpList_append_run _ rfl _ _ _ _ rfl _ _ rfl rfl _ _ (hrz _) ?_)
    go_ret
    exact ⟨_, rfl, World.ownsRow_made w.drew cur G (Nat.le_refl _) HG.out HC.out, ((Below.refl w.heap.size w).drew).alloc (Nat.le_refl _) _⟩

theorem SI.reads {w : World} {A : Option Addr} {n c : Nat} {xs : List PI} (h : SI w A n c xs) : Reads w w.heap.size 12 A n (flat recI xs) := by
  refine ⟨by rw [flat_length recI_length, h.sr.ln], fun hp => ?_⟩
  obtain ⟨b, off, e, hb, hel⟩ := h.sr.el hp
  cases e
  refine ⟨_, rfl, hb, fun j u hu => ?_⟩
  have hj := (List.getElem?_eq_some_iff.1 hu).1
  rw [flat_length recI_length] at hj
  obtain ⟨a, v, g1, g2, g3⟩ := flat_at' recI_length (by omega) xs j hj
  have := hel (j / 12) a g1 (j % 12) v g2
  rw [addr_add]
  rw [g3] at hu
  cases hu
  rw [show off + j = off + j / 12 * 12 + j % 12 by omega]
  exact this
theorem flatI_one' (xs : List PI) : ∀ u ∈ flat recI xs, u.oneCell' = true := by
  intro u hu
  obtain ⟨p, _, h⟩ := List.mem_flatMap.1 hu
  exact recI_one p u h

/-- the row that Concat fills -/
structure CcI (w : World) (v : Value) (n : Nat) (xs : List PI) (wr : World) : Prop where
  own : wr.ownsRow w.heap.size 37 12 v n (flat recI xs)
  bel : Below w.heap.size w wr

set_option maxRecDepth 100000 in
set_option maxHeartbeats 2000000 in
theorem concatI_any (xs ys : List PI) (A B : Option Addr) (n c m d g : Nat) (w : World) (h0 : w.cell? ⟨g, 0, none⟩ = some (.slice A n c)) (h1 : w.cell? ⟨g, 1, none⟩ = some (.slice B m d)) (hx : SI w A n c xs) (hy : SI w B m d ys) (hn : n ≤ 100000) (hm : m ≤ 100000) :
    Calls Tryd.prog 49 #[.slice (some ⟨g, 0, none⟩) 2 2] w fun e w' => ∃ v, e = .returned v ∧ w'.ownsRow w.heap.size 37 12 v (n + m) (flat recI (xs ++ ys)) ∧ Below w.heap.size w w' := by
  obtain ⟨i0, hi0, hz0, hz1, hz2⟩ := info_parts info_interval
  have H0 := Lib.hid h0
  have H1 := Lib.hid h1
  have HX := Lib.hid hx.reads
  have HY := Lib.hid hy.reads
  have hg : g < w.heap.size := World.block_lt_of_cell? w ⟨g, 0, none⟩ h0
  have I0 : Hid (∀ w1 v, w1.ownsRow w.heap.size 37 12 v 0 (flat recI []) → Below w.heap.size w w1 → CcI w v 0 [] w1) := fun _ _ a b => ⟨a, b⟩
  clear hx hy
  go_enter Tryd.func49, Tryd.ntmps49
  go_wp2_with fail
  go_loopw [3, 11] (fun v3 v11 wr => w = wr ∧ ((v11 = .int .i64 0 ∧ v3 = .int .i64 0) ∨ (v11 = .int .i64 1 ∧ v3 = .int .i64 n) ∨ (v11 = .int .i64 2 ∧ v3 = .int .i64 ((n + m : Nat) : Int)))) (fun _ v11 _ => 2 - (intOf v11).toNat)
  case atStart => exact ⟨rfl, .inl ⟨rfl, rfl⟩⟩
  case round =>
    obtain ⟨rfl, ⟨rfl, rfl⟩ | ⟨rfl, rfl⟩ | ⟨rfl, rfl⟩⟩ := hrel
    · go_wp2_with fail
      go_roundw
      case rel => exact ⟨by trivial, .inr (.inl ⟨rfl, by go_num⟩)⟩
      case measure => simp [intOf]
    · go_wp2_with fail
      go_roundw
      case rel => exact ⟨by trivial, .inr (.inr ⟨rfl, by go_num⟩)⟩
      case measure => simp [intOf]
    · clear h0 h1
      go_wp2_with fail
      refine (growI_any (n + m) _ (by omega)).mono ?_
      rintro e w1 ⟨v, rfl, hown, hb1⟩
      have I1 := Lib.hid (I0.out w1 v hown hb1)
      clear hown hb1
      go_wp2_with fail
      go_loopw [6, 27] (fun v6 v27 wx => (v27 = .int .i64 0 ∧ CcI w v6 0 [] wx) ∨ (v27 = .int .i64 1 ∧ CcI w v6 n xs wx) ∨ (v27 = .int .i64 2 ∧ CcI w v6 (n + m) (xs ++ ys) wx)) (fun _ v27 _ => 2 - (intOf v27).toNat)
      case atStart => exact .inl ⟨rfl, I1.out⟩
      case round =>
        obtain ⟨rfl, I⟩ | ⟨rfl, I⟩ | ⟨rfl, I⟩ := hrel
        · have J := Lib.hid I
          have hsz := I.bel.size
          have hc : wr.cell? ⟨g, 0, none⟩ = some (.slice A n c) := (I.bel.cell (p := ⟨g, 0, none⟩) hg).trans H0.out
          have R := Lib.hid (HX.out.below I.bel)
          clear I
          go_wp2_with (at_builtin; refine wpList_append_any _ rfl _ _ 22 rfl w.heap.size 37 i0 (aggI (((VC.zero, Val.zero), (VC.zero, Val.zero)), (false, false))) 12 168 Tryd.underlying22 hi0 hz0 hz1 hz2 rfl (by decide) u6 0 (flat recI []) rfl J.out.own _ _ n _ (flat recI xs) rfl R.out ?c1 (by unfold maxLen; omega) (by omega) hsz ?_)
          case c1 => exact flatI_one' _
          intro v' w4 hown hgr _
          have HI : Hid (CcI w v' n ([] ++ xs) w4) := Lib.hid ⟨by rw [flat_append]; exact hown, J.out.bel.grown hgr hsz (own_ge J.out.own)⟩
          clear hown hgr hc
          go_wp2_with fail
          go_roundw
          case rel => exact .inr (.inl ⟨rfl, by simpa using HI.out⟩)
          case measure => simp [intOf]
        · have J := Lib.hid I
          have hsz := I.bel.size
          have hc : wr.cell? ⟨g, 1, none⟩ = some (.slice B m d) := (I.bel.cell (p := ⟨g, 1, none⟩) hg).trans H1.out
          have R := Lib.hid (HY.out.below I.bel)
          clear I
          go_wp2_with (at_builtin; refine wpList_append_any _ rfl _ _ 22 rfl w.heap.size 37 i0 (aggI (((VC.zero, Val.zero), (VC.zero, Val.zero)), (false, false))) 12 168 Tryd.underlying22 hi0 hz0 hz1 hz2 rfl (by decide) u6 n (flat recI xs) rfl J.out.own _ _ m _ (flat recI ys) rfl R.out ?c1 (by unfold maxLen; omega) (by omega) hsz ?_)
          case c1 => exact flatI_one' _
          intro v' w4 hown hgr _
          have HI : Hid (CcI w v' (n + m) (xs ++ ys) w4) := Lib.hid ⟨by rw [flat_append]; exact hown, J.out.bel.grown hgr hsz (own_ge J.out.own)⟩
          clear hown hgr hc
          go_wp2_with fail
          go_roundw
          case rel => exact .inr (.inr ⟨rfl, HI.out⟩)
          case measure => simp [intOf]
        · have J := Lib.hid I
          clear I
          go_wp2_with fail
          go_ret
          exact ⟨_, rfl, J.out.own, J.out.bel⟩

set_option maxHeartbeats 1000000 in
theorem union_any (is js : List PI) (A B : Option Addr) (n c n' c' : Nat) (w : World) (hT : Tabs w) (h : SI w A n c is) (h' : SI w B n' c' js) (hn : n ≤ 40000) (hn' : n' ≤ 40000) :
    Calls Tryd.prog 26 #[.slice A n c, .slice B n' c'] w (NormOk (fun a => inS cmC a (spansL (is.map ivP)) ∨ inS cmC a (spansL (js.map ivP))) (n + n') w) := by
  have HT := Lib.hid hT
  have H := Lib.hid h
  have H' := Lib.hid h'
  have Z0 := Lib.hid ((Below.refl w.heap.size w).alloc (Nat.le_refl _) (Obj.cells #[.slice A n c, .slice B n' c'] 22))
  have B0 : Hid (Blk (w.alloc (Obj.cells #[.slice A n c, .slice B n' c'] 22)) w.heap.size 22 #[.slice A n c, .slice B n' c']) := Blk.new_at rfl
  clear hT h h'
  go_enter Tryd.func26, Tryd.ntmps26
  go_wp2_with fail
  refine (concatI_any is js A B n c n' c' w.heap.size _ (B0.out.cell 0) (B0.out.cell 1) (H.out.step Z0.out) (H'.out.step Z0.out) (by omega) (by omega)).mono ?_
  rintro e w1 ⟨v, rfl, hown, hb1⟩
  have Z1 := Lib.hid (Z0.out.step' hb1)
  obtain ⟨A1, c1, rfl, hs⟩ := SI.of_own (xs := is ++ js) hown (by rw [List.length_append, ← H.out.sr.ln, ← H'.out.sr.ln]) (by unfold reach; omega) (fun x hx => by
    rcases List.mem_append.1 hx with hx | hx
    · exact (H.out.ok x hx).step Z1.out
    · exact (H'.out.ok x hx).step Z1.out)
  have HS := Lib.hid hs
  clear hs hown hb1
  go_wp2_with fail
  refine (normal_any (is ++ js) A1 (n + n') c1 _ (HT.out.step Z1.out) HS.out (by omega)).mono ?_
  rintro e w2 ⟨A2, m2, c2, ys, q, rfl, he, hn2, hm2, hs2, hb2⟩
  have HE := Lib.hid he
  have HN : Hid (IsNF (fun a => inS cmC a (spansL (is.map ivP)) ∨ inS cmC a (spansL (js.map ivP))) q) := ⟨hn2.1, fun a => by
    rw [hn2.2 a, List.map_append, spansL_app]
    exact inS_app⟩
  have HM := Lib.hid hm2
  have HS2 := Lib.hid hs2
  have Z2 := Lib.hid (Z1.out.step' hb2)
  clear he hn2 hm2 hs2 hb2
  go_wp2_with fail
  go_ret
  exact ⟨A2, m2, c2, ys, q, rfl, HE.out, HN.out, HM.out, HS2.out, Z2.out⟩

end Go.Proofs.YtdmabhbhlnpkgaaDoor

namespace Go.Proofs.YtdmabhbhlnpkgaaDoor
open Go.RowKit

/-- the list is the normal form of a set -/
def Nrm (S : Cut → Prop) (ys : List PI) : Prop := ∃ n, ys.map ivP = n.map ivOf ∧ IsNF S n
abbrev setI (ys : List PI) (a : Cut) : Prop := inS cmC a (spansL (ys.map ivP))
theorem Nrm.mem {S : Cut → Prop} {ys : List PI} (h : Nrm S ys) (a : Cut) : setI ys a ↔ S a := by
  obtain ⟨n, e, hn⟩ := h
  unfold setI
  rw [e, spansL_of hn.1.ne]
  exact hn.2 a
theorem Nrm.same {S T : Cut → Prop} {ys zs : List PI} (h : Nrm S ys) (k : Nrm T zs) (e : ∀ a, VC1 a → (S a ↔ T a)) : ys.map ivP = zs.map ivP := by
  obtain ⟨n, e1, h1⟩ := h
  obtain ⟨m, e2, h2⟩ := k
  exact norm_same e1 e2 h1 h2 e
theorem setI_range {ys : List PI} {a : Cut} (h : setI ys a) : cmC (vMin, false) a ≤ 0 ∧ cmC a (vMax, true) < 0 := inS_range spansL_ne h

set_option maxRecDepth 100000 in
set_option maxHeartbeats 4000000 in
theorem intervalLaws_walk (Aa : Option Addr) (ma ca : Nat) (ya : List PI) (Ab : Option Addr) (mb cb : Nat) (yb : List PI) (w : World) (hT : Tabs w) (ha : SI w Aa ma ca ya) (hb : SI w Ab mb cb yb) :
    Calls Tryd.prog 9 #[.slice Aa ma ca, .slice Ab mb cb] w fun e w' => e = .returned (.bool true) ∧ Below w.heap.size w w' := by
  have HT := Lib.hid hT
  have Sa := Lib.hid ha
  have Sb := Lib.hid hb
  have Z := Lib.hid (Below.refl w.heap.size w)
  clear hT ha hb
  go_enter Tryd.func9, Tryd.ntmps9
  go_wp2_with fail
  refine (few_any ya Aa ma ca _ Sa.out).mono ?_
  rintro e w1 ⟨r, rfl, h40, hb⟩
  replace HT := Lib.hid (HT.out.step hb)
  replace Sa := Lib.hid (Sa.out.step hb)
  replace Sb := Lib.hid (Sb.out.step hb)
  replace Z := Lib.hid (Z.out.step' hb)
  clear hb
  cases r
  · clear h40
    go_wp2_with fail
    refine (awake24_any _ HT.out).mono ?_
    rintro e w9 ⟨rfl, hb9⟩
    go_wp2_with fail
    go_ret
    exact ⟨rfl, Z.out.step' hb9⟩
  have h4a : ma ≤ 40 := h40 rfl
  clear h40
  go_wp2_with fail
  refine (few_any yb Ab mb cb _ Sb.out).mono ?_
  rintro e w2 ⟨r, rfl, h40, hb⟩
  replace HT := Lib.hid (HT.out.step hb)
  replace Sa := Lib.hid (Sa.out.step hb)
  replace Sb := Lib.hid (Sb.out.step hb)
  replace Z := Lib.hid (Z.out.step' hb)
  clear hb
  cases r
  · clear h40
    go_wp2_with fail
    refine (awake24_any _ HT.out).mono ?_
    rintro e w9 ⟨rfl, hb9⟩
    go_wp2_with fail
    go_ret
    exact ⟨rfl, Z.out.step' hb9⟩
  have h4b : mb ≤ 40 := h40 rfl
  clear h40
  by_cases h2a : ma ≤ 20
  rotate_left
  · have ga : (20 : Int) < (ma : Int) := by omega
    go_wp2_with fail
    refine (awake24_any _ HT.out).mono ?_
    rintro e w9 ⟨rfl, hb9⟩
    go_wp2_with fail
    go_ret
    exact ⟨rfl, Z.out.step' hb9⟩
  have ga : ¬ (20 : Int) < (ma : Int) := by omega
  by_cases h2b : mb ≤ 20
  rotate_left
  · have gb : (20 : Int) < (mb : Int) := by omega
    go_wp2_with fail
    refine (awake24_any _ HT.out).mono ?_
    rintro e w9 ⟨rfl, hb9⟩
    go_wp2_with fail
    go_ret
    exact ⟨rfl, Z.out.step' hb9⟩
  have gb : ¬ (20 : Int) < (mb : Int) := by omega
  go_wp2_with fail
  refine (rest_any ya Aa ma ca _ HT.out Sa.out (by omega)).mono ?_
  rintro e w3 ⟨Ax, mx, cx, yx, qx, rfl, he, hn, hmx, hs, hb⟩
  have Nx : Hid (Nrm _ yx) := Lib.hid ⟨_, he, hn⟩
  have Sx := Lib.hid hs
  replace HT := Lib.hid (HT.out.step hb)
  replace Sa := Lib.hid (Sa.out.step hb)
  replace Sb := Lib.hid (Sb.out.step hb)
  replace Z := Lib.hid (Z.out.step' hb)
  clear he hn hs hb
  go_wp2_with fail
  refine (rest_any yb Ab mb cb _ HT.out Sb.out (by omega)).mono ?_
  rintro e w4 ⟨Ay, my, cy, yy, qy, rfl, he, hn, hmy, hs, hb⟩
  have Ny : Hid (Nrm _ yy) := Lib.hid ⟨_, he, hn⟩
  have Sy := Lib.hid hs
  replace HT := Lib.hid (HT.out.step hb)
  replace Sa := Lib.hid (Sa.out.step hb)
  replace Sb := Lib.hid (Sb.out.step hb)
  replace Sx := Lib.hid (Sx.out.step hb)
  replace Z := Lib.hid (Z.out.step' hb)
  clear he hn hs hb
  go_wp2_with fail
  refine (rest_any yx Ax mx cx _ HT.out Sx.out (by omega)).mono ?_
  rintro e w5 ⟨Ar, mr, cr, yr, qr, rfl, he, hn, hmr, hs, hb⟩
  have Nr : Hid (Nrm _ yr) := Lib.hid ⟨_, he, hn⟩
  have Sr := Lib.hid hs
  replace HT := Lib.hid (HT.out.step hb)
  replace Sa := Lib.hid (Sa.out.step hb)
  replace Sb := Lib.hid (Sb.out.step hb)
  replace Sx := Lib.hid (Sx.out.step hb)
  replace Sy := Lib.hid (Sy.out.step hb)
  replace Z := Lib.hid (Z.out.step' hb)
  clear he hn hs hb
  go_wp2_with fail
  refine (normal_any ya Aa ma ca _ HT.out Sa.out (by omega)).mono ?_
  rintro e w6 ⟨An, mn, cn, yn, qn, rfl, he, hn, hmn, hs, hb⟩
  have Nn : Hid (Nrm _ yn) := Lib.hid ⟨_, he, hn⟩
  have Sn := Lib.hid hs
  replace HT := Lib.hid (HT.out.step hb)
  replace Sa := Lib.hid (Sa.out.step hb)
  replace Sb := Lib.hid (Sb.out.step hb)
  replace Sx := Lib.hid (Sx.out.step hb)
  replace Sy := Lib.hid (Sy.out.step hb)
  replace Sr := Lib.hid (Sr.out.step hb)
  replace Z := Lib.hid (Z.out.step' hb)
  clear he hn hs hb
  have HE : Hid (yr.map ivP = yn.map ivP) := Lib.hid (Nr.out.same Nn.out fun a _ => by
    rw [show inS cmC a (spansL (yx.map ivP)) ↔ _ from Nx.out.mem a]
    constructor
    · rintro ⟨h1, h2, h3⟩
      by_cases h : setI ya a
      · exact h
      · exact absurd ⟨h1, h2, h⟩ h3
    · intro h
      have := setI_range h
      exact ⟨this.1, this.2, fun k => k.2.2 h⟩)
  go_wp2_with fail
  refine (same24_eq yr yn Ar An mr mn cr cn _ Sr.out Sn.out HE.out).mono ?_
  rintro e w7 ⟨rfl, hb⟩
  replace HT := Lib.hid (HT.out.step hb)
  replace Sa := Lib.hid (Sa.out.step hb)
  replace Sb := Lib.hid (Sb.out.step hb)
  replace Sx := Lib.hid (Sx.out.step hb)
  replace Sy := Lib.hid (Sy.out.step hb)
  replace Sr := Lib.hid (Sr.out.step hb)
  replace Sn := Lib.hid (Sn.out.step hb)
  replace Z := Lib.hid (Z.out.step' hb)
  clear hb HE
  go_wp2_with fail
  refine (union_any ya yb Aa Ab ma ca mb cb _ HT.out Sa.out Sb.out (by omega) (by omega)).mono ?_
  rintro e w8 ⟨Au, mu, cu, yu, qu, rfl, he, hn, hmu, hs, hb⟩
  have Nu : Hid (Nrm _ yu) := Lib.hid ⟨_, he, hn⟩
  have Su := Lib.hid hs
  replace HT := Lib.hid (HT.out.step hb)
  replace Sa := Lib.hid (Sa.out.step hb)
  replace Sb := Lib.hid (Sb.out.step hb)
  replace Sx := Lib.hid (Sx.out.step hb)
  replace Sy := Lib.hid (Sy.out.step hb)
  replace Sr := Lib.hid (Sr.out.step hb)
  replace Sn := Lib.hid (Sn.out.step hb)
  replace Z := Lib.hid (Z.out.step' hb)
  clear he hn hs hb
  go_wp2_with fail
  refine (rest_any yu Au mu cu _ HT.out Su.out (by omega)).mono ?_
  rintro e w9 ⟨Av, mv, cv, yv, qv, rfl, he, hn, hmv, hs, hb⟩
  have Nv : Hid (Nrm _ yv) := Lib.hid ⟨_, he, hn⟩
  have Sv := Lib.hid hs
  replace HT := Lib.hid (HT.out.step hb)
  replace Sa := Lib.hid (Sa.out.step hb)
  replace Sb := Lib.hid (Sb.out.step hb)
  replace Sx := Lib.hid (Sx.out.step hb)
  replace Sy := Lib.hid (Sy.out.step hb)
  replace Sr := Lib.hid (Sr.out.step hb)
  replace Sn := Lib.hid (Sn.out.step hb)
  replace Su := Lib.hid (Su.out.step hb)
  replace Z := Lib.hid (Z.out.step' hb)
  clear he hn hs hb
  go_wp2_with fail
  refine (meet_any yx yy Ax Ay mx cx my cy _ HT.out Sx.out Sy.out (by omega) (by omega)).mono ?_
  rintro e w10 ⟨Am, mm, cm, ym, qm, rfl, he, hn, hmm, hs, hb⟩
  have Nm : Hid (Nrm _ ym) := Lib.hid ⟨_, he, hn⟩
  have Sm := Lib.hid hs
  replace HT := Lib.hid (HT.out.step hb)
  replace Sa := Lib.hid (Sa.out.step hb)
  replace Sb := Lib.hid (Sb.out.step hb)
  replace Sx := Lib.hid (Sx.out.step hb)
  replace Sy := Lib.hid (Sy.out.step hb)
  replace Sr := Lib.hid (Sr.out.step hb)
  replace Sn := Lib.hid (Sn.out.step hb)
  replace Su := Lib.hid (Su.out.step hb)
  replace Sv := Lib.hid (Sv.out.step hb)
  replace Z := Lib.hid (Z.out.step' hb)
  clear he hn hs hb
  have HE : Hid (yv.map ivP = ym.map ivP) := Lib.hid (Nv.out.same Nm.out fun a _ => by
    rw [show inS cmC a (spansL (yx.map ivP)) ↔ _ from Nx.out.mem a, show inS cmC a (spansL (yy.map ivP)) ↔ _ from Ny.out.mem a, show inS cmC a (spansL (yu.map ivP)) ↔ _ from Nu.out.mem a]
    constructor
    · rintro ⟨h1, h2, h3⟩
      exact ⟨⟨h1, h2, fun h => h3 (.inl h)⟩, h1, h2, fun h => h3 (.inr h)⟩
    · rintro ⟨⟨h1, h2, h3⟩, _, _, h4⟩
      exact ⟨h1, h2, fun h => h.elim h3 h4⟩)
  go_wp2_with fail
  refine (same24_eq yv ym Av Am mv mm cv cm _ Sv.out Sm.out HE.out).mono ?_
  rintro e w11 ⟨rfl, hb⟩
  replace HT := Lib.hid (HT.out.step hb)
  replace Sa := Lib.hid (Sa.out.step hb)
  replace Sb := Lib.hid (Sb.out.step hb)
  replace Sx := Lib.hid (Sx.out.step hb)
  replace Sy := Lib.hid (Sy.out.step hb)
  replace Sr := Lib.hid (Sr.out.step hb)
  replace Sn := Lib.hid (Sn.out.step hb)
  replace Su := Lib.hid (Su.out.step hb)
  replace Sv := Lib.hid (Sv.out.step hb)
  replace Sm := Lib.hid (Sm.out.step hb)
  replace Z := Lib.hid (Z.out.step' hb)
  clear hb HE
  go_wp2_with fail
  refine (meet_any ya yb Aa Ab ma ca mb cb _ HT.out Sa.out Sb.out (by omega) (by omega)).mono ?_
  rintro e w12 ⟨Ai, mi, ci, yi, qi, rfl, he, hn, hmi, hs, hb⟩
  have Ni : Hid (Nrm _ yi) := Lib.hid ⟨_, he, hn⟩
  have Si := Lib.hid hs
  replace HT := Lib.hid (HT.out.step hb)
  replace Sa := Lib.hid (Sa.out.step hb)
  replace Sb := Lib.hid (Sb.out.step hb)
  replace Sx := Lib.hid (Sx.out.step hb)
  replace Sy := Lib.hid (Sy.out.step hb)
  replace Sr := Lib.hid (Sr.out.step hb)
  replace Sn := Lib.hid (Sn.out.step hb)
  replace Su := Lib.hid (Su.out.step hb)
  replace Sv := Lib.hid (Sv.out.step hb)
  replace Sm := Lib.hid (Sm.out.step hb)
  replace Z := Lib.hid (Z.out.step' hb)
  clear he hn hs hb
  go_wp2_with fail
  refine (rest_any yi Ai mi ci _ HT.out Si.out (by omega)).mono ?_
  rintro e w13 ⟨Aj, mj, cj, yj, qj, rfl, he, hn, hmj, hs, hb⟩
  have Nj : Hid (Nrm _ yj) := Lib.hid ⟨_, he, hn⟩
  have Sj := Lib.hid hs
  replace HT := Lib.hid (HT.out.step hb)
  replace Sa := Lib.hid (Sa.out.step hb)
  replace Sb := Lib.hid (Sb.out.step hb)
  replace Sx := Lib.hid (Sx.out.step hb)
  replace Sy := Lib.hid (Sy.out.step hb)
  replace Sr := Lib.hid (Sr.out.step hb)
  replace Sn := Lib.hid (Sn.out.step hb)
  replace Su := Lib.hid (Su.out.step hb)
  replace Sv := Lib.hid (Sv.out.step hb)
  replace Sm := Lib.hid (Sm.out.step hb)
  replace Si := Lib.hid (Si.out.step hb)
  replace Z := Lib.hid (Z.out.step' hb)
  clear he hn hs hb
  go_wp2_with fail
  refine (union_any yx yy Ax Ay mx cx my cy _ HT.out Sx.out Sy.out (by omega) (by omega)).mono ?_
  rintro e w14 ⟨Ak, mk, ck, yk, qk, rfl, he, hn, hmk, hs, hb⟩
  have Nk : Hid (Nrm _ yk) := Lib.hid ⟨_, he, hn⟩
  have Sk := Lib.hid hs
  replace HT := Lib.hid (HT.out.step hb)
  replace Sa := Lib.hid (Sa.out.step hb)
  replace Sb := Lib.hid (Sb.out.step hb)
  replace Sx := Lib.hid (Sx.out.step hb)
  replace Sy := Lib.hid (Sy.out.step hb)
  replace Sr := Lib.hid (Sr.out.step hb)
  replace Sn := Lib.hid (Sn.out.step hb)
  replace Su := Lib.hid (Su.out.step hb)
  replace Sv := Lib.hid (Sv.out.step hb)
  replace Sm := Lib.hid (Sm.out.step hb)
  replace Si := Lib.hid (Si.out.step hb)
  replace Sj := Lib.hid (Sj.out.step hb)
  replace Z := Lib.hid (Z.out.step' hb)
  clear he hn hs hb
  have HE : Hid (yj.map ivP = yk.map ivP) := Lib.hid (Nj.out.same Nk.out fun a _ => by
    rw [show inS cmC a (spansL (yx.map ivP)) ↔ _ from Nx.out.mem a, show inS cmC a (spansL (yy.map ivP)) ↔ _ from Ny.out.mem a, show inS cmC a (spansL (yi.map ivP)) ↔ _ from Ni.out.mem a]
    constructor
    · rintro ⟨h1, h2, h3⟩
      by_cases h : setI ya a
      · exact .inr ⟨h1, h2, fun k => h3 ⟨h, k⟩⟩
      · exact .inl ⟨h1, h2, h⟩
    · rintro (⟨h1, h2, h3⟩ | ⟨h1, h2, h3⟩)
      · exact ⟨h1, h2, fun k => h3 k.1⟩
      · exact ⟨h1, h2, fun k => h3 k.2⟩)
  go_wp2_with fail
  refine (same24_eq yj yk Aj Ak mj mk cj ck _ Sj.out Sk.out HE.out).mono ?_
  rintro e w15 ⟨rfl, hb⟩
  replace HT := Lib.hid (HT.out.step hb)
  replace Sa := Lib.hid (Sa.out.step hb)
  replace Sb := Lib.hid (Sb.out.step hb)
  replace Sx := Lib.hid (Sx.out.step hb)
  replace Sy := Lib.hid (Sy.out.step hb)
  replace Sr := Lib.hid (Sr.out.step hb)
  replace Sn := Lib.hid (Sn.out.step hb)
  replace Su := Lib.hid (Su.out.step hb)
  replace Sv := Lib.hid (Sv.out.step hb)
  replace Sm := Lib.hid (Sm.out.step hb)
  replace Si := Lib.hid (Si.out.step hb)
  replace Sj := Lib.hid (Sj.out.step hb)
  replace Sk := Lib.hid (Sk.out.step hb)
  replace Z := Lib.hid (Z.out.step' hb)
  clear hb HE
  go_wp2_with fail
  refine (normal_any yx Ax mx cx _ HT.out Sx.out (by omega)).mono ?_
  rintro e w16 ⟨Al, ml, cl, yl, ql, rfl, he, hn, hml, hs, hb⟩
  have Nl : Hid (Nrm _ yl) := Lib.hid ⟨_, he, hn⟩
  have Sl := Lib.hid hs
  replace HT := Lib.hid (HT.out.step hb)
  replace Sa := Lib.hid (Sa.out.step hb)
  replace Sb := Lib.hid (Sb.out.step hb)
  replace Sx := Lib.hid (Sx.out.step hb)
  replace Sy := Lib.hid (Sy.out.step hb)
  replace Sr := Lib.hid (Sr.out.step hb)
  replace Sn := Lib.hid (Sn.out.step hb)
  replace Su := Lib.hid (Su.out.step hb)
  replace Sv := Lib.hid (Sv.out.step hb)
  replace Sm := Lib.hid (Sm.out.step hb)
  replace Si := Lib.hid (Si.out.step hb)
  replace Sj := Lib.hid (Sj.out.step hb)
  replace Sk := Lib.hid (Sk.out.step hb)
  replace Z := Lib.hid (Z.out.step' hb)
  clear he hn hs hb
  have HE : Hid (yl.map ivP = yx.map ivP) := Lib.hid (Nl.out.same Nx.out fun a _ => Nx.out.mem a)
  go_wp2_with fail
  refine (same24_eq yl yx Al Ax ml mx cl cx _ Sl.out Sx.out HE.out).mono ?_
  rintro e w17 ⟨rfl, hb⟩
  replace HT := Lib.hid (HT.out.step hb)
  replace Sa := Lib.hid (Sa.out.step hb)
  replace Sb := Lib.hid (Sb.out.step hb)
  replace Sx := Lib.hid (Sx.out.step hb)
  replace Sy := Lib.hid (Sy.out.step hb)
  replace Sr := Lib.hid (Sr.out.step hb)
  replace Sn := Lib.hid (Sn.out.step hb)
  replace Su := Lib.hid (Su.out.step hb)
  replace Sv := Lib.hid (Sv.out.step hb)
  replace Sm := Lib.hid (Sm.out.step hb)
  replace Si := Lib.hid (Si.out.step hb)
  replace Sj := Lib.hid (Sj.out.step hb)
  replace Sk := Lib.hid (Sk.out.step hb)
  replace Sl := Lib.hid (Sl.out.step hb)
  replace Z := Lib.hid (Z.out.step' hb)
  clear hb HE
  go_wp2_with fail
  refine (awake24_any _ HT.out).mono ?_
  rintro e w9 ⟨rfl, hb9⟩
  go_wp2_with fail
  go_ret
  exact ⟨rfl, Z.out.step' hb9⟩

end Go.Proofs.YtdmabhbhlnpkgaaDoor
