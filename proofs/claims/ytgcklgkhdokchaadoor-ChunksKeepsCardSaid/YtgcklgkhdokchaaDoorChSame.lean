/- The contracts of the reference's SameOrders, SameChunks and Same. -/
import Derived.Test.YtgcklgkhdokchaaDoorChKeys
import Derived.Test.YtgcklgkhdokchaaDoorChBaseB
namespace Go.Proofs.YtgcklgkhdokchaaDoor
open Go.RowKit

def sameOd (a b : Od) : Bool := (a.d == b.d) && sameP a.p b.p
def sameK : List Od → List Od → Bool
  | [], [] => true
  | a :: r, b :: s => sameOd a b && sameK r s
  | _, _ => false
def sameC (a b : Ch) : Bool := (a.lo.toList == b.lo.toList) && (a.hi.toList == b.hi.toList) && (a.sh == b.sh) && (a.ver == b.ver) && (a.ju == b.ju)
def sameCs : List Ch → List Ch → Bool
  | [], [] => true
  | a :: r, b :: s => sameC a b && sameCs r s
  | _, _ => false
def sameRo (a b : Ro) : Bool := (a.sp.toList == b.sp.toList) && (a.ep == b.ep) && (a.ver == b.ver) && (a.ha == b.ha) && sameK a.ks b.ks && sameCs a.cs b.cs
theorem sameP_refl : ∀ l, sameP l l = true
  | [] => rfl
  | a :: r => by rw [sameP, sameP_refl r]; simp
theorem sameK_refl : ∀ l, sameK l l = true
  | [] => rfl
  | a :: r => by rw [sameK, sameK_refl r, sameOd, sameP_refl]; simp
theorem sameCs_refl : ∀ l, sameCs l l = true
  | [] => rfl
  | a :: r => by rw [sameCs, sameCs_refl r, sameC]; simp
theorem sameRo_refl (R : Ro) : sameRo R R = true := by unfold sameRo; rw [sameK_refl, sameCs_refl]; simp
theorem sameK_len : ∀ {l m : List Od}, l.length ≠ m.length → sameK l m = false
  | [], [], h => absurd rfl h
  | [], _ :: _, _ => rfl
  | _ :: _, [], _ => rfl
  | a :: r, b :: s, h => by rw [sameK, sameK_len (l := r) (m := s) (by simpa using h)]; simp
theorem sameK_at {l m : List Od} {i : Nat} {x y : Od} (hx : l[i]? = some x) (hy : m[i]? = some y) : sameK (l.drop i) (m.drop i) = (sameOd x y && sameK (l.drop (i + 1)) (m.drop (i + 1))) := by rw [drop_of hx, drop_of hy, sameK]
theorem sameK_end {l m : List Od} {i : Nat} (h1 : l.length ≤ i) (h2 : m.length ≤ i) : sameK (l.drop i) (m.drop i) = true := by rw [List.drop_of_length_le h1, List.drop_of_length_le h2]; rfl
theorem sameCs_len : ∀ {l m : List Ch}, l.length ≠ m.length → sameCs l m = false
  | [], [], h => absurd rfl h
  | [], _ :: _, _ => rfl
  | _ :: _, [], _ => rfl
  | a :: r, b :: s, h => by rw [sameCs, sameCs_len (l := r) (m := s) (by simpa using h)]; simp
theorem sameCs_at {l m : List Ch} {i : Nat} {x y : Ch} (hx : l[i]? = some x) (hy : m[i]? = some y) : sameCs (l.drop i) (m.drop i) = (sameC x y && sameCs (l.drop (i + 1)) (m.drop (i + 1))) := by rw [drop_of hx, drop_of hy, sameCs]
theorem sameCs_end {l m : List Ch} {i : Nat} (h1 : l.length ≤ i) (h2 : m.length ≤ i) : sameCs (l.drop i) (m.drop i) = true := by rw [List.drop_of_length_le h1, List.drop_of_length_le h2]; rfl

set_option maxRecDepth 100000 in
set_option maxHeartbeats 1000000 in
theorem sameO_any (l m : List Od) (A B : Option Addr) (n c k d : Nat) (w : World) (h : KS w A n c l) (h' : KS w B k d m) :
    Calls Tryd.prog 25 #[.slice A n c, .slice B k d] w fun e w' => e = .returned (.bool (sameK l m)) ∧ Below w.heap.size w w' := by
  have hl := Lib.hid h.ln
  have hl' := Lib.hid h'.ln
  obtain ⟨os, h⟩ := h
  obtain ⟨os', h'⟩ := h'
  have hz : n ≤ 140737488355328 := by have := h.sz; unfold reach at this; omega
  have hk : k ≤ 140737488355328 := by have := h'.sz; unfold reach at this; omega
  have H := Lib.hid h
  have H' := Lib.hid h'
  clear h h'
  by_cases hnk : n = k
  rotate_left
  · have HF : Hid (sameK l m = false) := sameK_len (by have := hl.out; have := hl'.out; omega)
    have hnk' : ((n : Int) != (k : Int)) = true := by simp; omega
    go_enter Tryd.func25, Tryd.ntmps25
    go_wp2_with fail
    go_ret
    exact ⟨by rw [HF.out]; rfl, Below.refl _ _⟩
  subst hnk
  go_enter Tryd.func25, Tryd.ntmps25
  go_wp2_with fail
  go_loopw [5] (fun v wr => ∃ i : Nat, i ≤ n ∧ v = .int .i64 i ∧ sameK l m = sameK (l.drop i) (m.drop i) ∧ Below w.heap.size w wr) (fun v _ => n - (intOf v).toNat)
  case atStart => exact ⟨0, Nat.zero_le _, rfl, rfl, Below.refl _ _⟩
  case round =>
    obtain ⟨i, hi, rfl, ha, hbel⟩ := hrel
    have HA := Lib.hid ha
    have HB := Lib.hid hbel
    clear ha
    by_cases hlt : i < n
    · obtain ⟨b, off, x, hA, hb, hx, e0, e1⟩ := H.out.sr.at2 hlt
      obtain ⟨b', off', y, hA', hb', hy, f0, f1⟩ := H'.out.sr.at2 hlt
      obtain ⟨q, hq⟩ : ∃ q, l[i]? = some q := ⟨_, List.getElem?_eq_getElem (by have := hl.out; omega)⟩
      obtain ⟨r, hr⟩ : ∃ r, m[i]? = some r := ⟨_, List.getElem?_eq_getElem (by have := hl'.out; omega)⟩
      subst hA hA'
      have OQ := Lib.hid (H.out.el i x q hx hq)
      have OR' := Lib.hid (H'.out.el i y r hy hr)
      have HX := Lib.hid (sameK_at hq hr)
      replace e0 := (hbel.cell (p := ⟨b, off + i * 2, none⟩) hb).trans e0
      replace e1 := (hbel.cell (p := ⟨b, off + i * 2 + 1, none⟩) hb).trans e1
      replace f0 := (hbel.cell (p := ⟨b', off' + i * 2, none⟩) hb').trans f0
      replace f1 := (hbel.cell (p := ⟨b', off' + i * 2 + 1, none⟩) hb').trans f1
      obtain ⟨xA, xn, xc, xd⟩ := x
      obtain ⟨yA, yn, yc, yd⟩ := y
      have dq : xd = q.d := OQ.out.d
      have dr : yd = r.d := OR'.out.d
      simp only at e0 e1 f0 f1
      have X0 : ∀ kk : BW wr, kk.val.cell? ⟨b, off + i * 2, none⟩ = some (.slice xA xn xc) := fun kk => kk.cell e0
      have X1 : ∀ kk : BW wr, kk.val.cell? ⟨b, off + i * 2 + 1, none⟩ = some (.bool xd) := fun kk => kk.cell e1
      have Y0 : ∀ kk : BW wr, kk.val.cell? ⟨b', off' + i * 2, none⟩ = some (.slice yA yn yc) := fun kk => kk.cell f0
      have Y1 : ∀ kk : BW wr, kk.val.cell? ⟨b', off' + i * 2 + 1, none⟩ = some (.bool yd) := fun kk => kk.cell f1
      have K1 : Hid (∀ kk : BW wr, Calls Tryd.prog 48 #[.slice xA xn xc, .slice yA yn yc] kk.val fun e w'' => e = .returned (.bool (sameP q.p r.p)) ∧ ∃ kk : BW wr, w'' = kk.val) := fun kk =>
        Calls.bw (rsame04_any q.p r.p _ _ _ _ _ _ _ (OQ.out.st.step (HB.out.step' kk.below)) (OR'.out.st.step (HB.out.step' kk.below)))
      have HOD : Hid (sameOd q r = ((xd == yd) && sameP q.p r.p)) := by rw [Hid, dq, dr]; rfl
      have i0 : (0 : Int) ≤ (i : Int) := by omega
      have i1 : (i : Int) < (n : Int) := by omega
      clear hx hy hq hr hbel dq dr
      go_upto_region 6 with fail
      clear e0 e1 f0 f1
      cases xd <;> cases yd
      all_goals
        refine wp_region_bw (by kernel_rfl) (by kernel_rfl) ?_
        repeat (go_big_quiet_step ((go_at_call 48; with_reducible exact K1.out _)))
        refine wpQuiet_nil ?_
        rintro _ ⟨kw, rfl⟩
        have HK := Lib.hid kw.below
        generalize kw.val = w5 at *
        clear X0 X1 Y0 Y1 K1
      case' false.true | true.false =>
        have HF : Hid (sameK l m = false) := by rw [Hid, HA.out, HX.out, HOD.out]; rfl
        go_wp2_with fail
        go_ret
        exact ⟨by rw [HF.out]; rfl, HB.out.step' HK.out⟩
      all_goals
        cases hq : sameP q.p r.p
        · have HF : Hid (sameK l m = false) := by rw [Hid, HA.out, HX.out, HOD.out, hq]; rfl
          go_wp2_with fail
          go_ret
          exact ⟨by rw [HF.out]; rfl, HB.out.step' HK.out⟩
        · have HF : Hid (sameK l m = sameK (l.drop (i + 1)) (m.drop (i + 1))) := by rw [Hid, HA.out, HX.out, HOD.out, hq]; rfl
          go_wp2_with fail
          go_roundw
          case rel => exact ⟨i + 1, by omega, by go_num, HF.out, HB.out.step' HK.out⟩
          case measure => simp [intOf]; omega
    · have HF : Hid (sameK l m = true) := by rw [Hid, HA.out]; exact sameK_end (by have := hl.out; omega) (by have := hl'.out; omega)
      clear hbel
      go_wp2_with fail
      go_ret
      exact ⟨by rw [HF.out]; rfl, HB.out⟩

set_option maxRecDepth 100000 in
set_option maxHeartbeats 1000000 in
theorem sameCh_any (l m : List Ch) (A B : Option Addr) (n c k d : Nat) (w : World) (h : CS w A n c l) (h' : CS w B k d m) :
    Calls Tryd.prog 26 #[.slice A n c, .slice B k d] w fun e w' => e = .returned (.bool (sameCs l m)) ∧ Below w.heap.size w w' := by
  have hz : n ≤ 140737488355328 := by have := h.sz; unfold reach at this; omega
  have hk : k ≤ 140737488355328 := by have := h'.sz; unfold reach at this; omega
  have H := Lib.hid h
  have H' := Lib.hid h'
  clear h h'
  by_cases hnk : n = k
  rotate_left
  · have HF : Hid (sameCs l m = false) := sameCs_len (by have := H.out.ln; have := H'.out.ln; omega)
    have hnk' : ((n : Int) != (k : Int)) = true := by simp; omega
    go_enter Tryd.func26, Tryd.ntmps26
    go_wp2_with fail
    go_ret
    exact ⟨by rw [HF.out]; rfl, Below.refl _ _⟩
  subst hnk
  go_enter Tryd.func26, Tryd.ntmps26
  go_wp2_with fail
  go_loopw [5] (fun v wr => ∃ i : Nat, i ≤ n ∧ v = .int .i64 i ∧ sameCs l m = sameCs (l.drop i) (m.drop i) ∧ Below w.heap.size w wr) (fun v _ => n - (intOf v).toNat)
  case atStart => exact ⟨0, Nat.zero_le _, rfl, rfl, Below.refl _ _⟩
  case round =>
    obtain ⟨i, hi, rfl, ha, hbel⟩ := hrel
    have HA := Lib.hid ha
    have HB := Lib.hid hbel
    clear ha
    by_cases hlt : i < n
    · obtain ⟨b, off, x, hA, hb, hx, e0, e1, e2, e3, e4⟩ := H.out.sr.at5 hlt
      obtain ⟨b', off', y, hA', hb', hy, f0, f1, f2, f3, f4⟩ := H'.out.sr.at5 hlt
      subst hA hA'
      have HX := Lib.hid (sameCs_at hx hy)
      replace e0 := (hbel.cell (p := ⟨b, off + i * 5, none⟩) hb).trans e0
      replace e1 := (hbel.cell (p := ⟨b, off + i * 5 + 1, none⟩) hb).trans e1
      replace e2 := (hbel.cell (p := ⟨b, off + i * 5 + 2, none⟩) hb).trans e2
      replace e3 := (hbel.cell (p := ⟨b, off + i * 5 + 3, none⟩) hb).trans e3
      replace e4 := (hbel.cell (p := ⟨b, off + i * 5 + 4, none⟩) hb).trans e4
      replace f0 := (hbel.cell (p := ⟨b', off' + i * 5, none⟩) hb').trans f0
      replace f1 := (hbel.cell (p := ⟨b', off' + i * 5 + 1, none⟩) hb').trans f1
      replace f2 := (hbel.cell (p := ⟨b', off' + i * 5 + 2, none⟩) hb').trans f2
      replace f3 := (hbel.cell (p := ⟨b', off' + i * 5 + 3, none⟩) hb').trans f3
      replace f4 := (hbel.cell (p := ⟨b', off' + i * 5 + 4, none⟩) hb').trans f4
      have i0 : (0 : Int) ≤ (i : Int) := by omega
      have i1 : (i : Int) < (n : Int) := by omega
      clear hx hy hbel
      go_upto_region 6 with fail
      by_cases h1 : x.lo.toList = y.lo.toList
      rotate_left
      · have HF : Hid (sameCs l m = false) := by
          rw [Hid, HA.out, HX.out]
          unfold sameC
          simp [h1]
        go_region
        all_goals
          go_wp2_with fail
          go_ret
          exact ⟨by rw [HF.out]; rfl, HB.out.drew⟩
      by_cases h2 : x.hi.toList = y.hi.toList
      rotate_left
      · have HF : Hid (sameCs l m = false) := by
          rw [Hid, HA.out, HX.out]
          unfold sameC
          simp [h2]
        go_region
        all_goals
          go_wp2_with fail
          go_ret
          exact ⟨by rw [HF.out]; rfl, HB.out.drew⟩
      by_cases h3 : x.sh = y.sh
      rotate_left
      · have HF : Hid (sameCs l m = false) := by
          rw [Hid, HA.out, HX.out]
          unfold sameC
          simp [h3]
        go_region
        all_goals
          go_wp2_with fail
          go_ret
          exact ⟨by rw [HF.out]; rfl, HB.out.drew⟩
      by_cases h4 : x.ver = y.ver
      rotate_left
      · have HF : Hid (sameCs l m = false) := by
          rw [Hid, HA.out, HX.out]
          unfold sameC
          simp [h4]
        go_region
        all_goals
          go_wp2_with fail
          go_ret
          exact ⟨by rw [HF.out]; rfl, HB.out.drew⟩
      by_cases h5 : x.ju = y.ju
      rotate_left
      · have HF : Hid (sameCs l m = false) := by
          rw [Hid, HA.out, HX.out]
          unfold sameC
          simp [h5]
        go_region
        all_goals
          go_wp2_with fail
          go_ret
          exact ⟨by rw [HF.out]; rfl, HB.out.drew⟩
      have HF : Hid (sameCs l m = sameCs (l.drop (i + 1)) (m.drop (i + 1))) := by
        rw [Hid, HA.out, HX.out]
        unfold sameC
        simp [h1, h2, h3, h4, h5]
      go_region
      all_goals
        go_wp2_with fail
        go_roundw
        case rel => exact ⟨i + 1, by omega, by go_num, HF.out, HB.out.drew⟩
        case measure => simp [intOf]; omega
    · have HF : Hid (sameCs l m = true) := by rw [Hid, HA.out]; exact sameCs_end (by have := H.out.ln; omega) (by have := H'.out.ln; omega)
      clear hbel
      go_wp2_with fail
      go_ret
      exact ⟨by rw [HF.out]; rfl, HB.out⟩

set_option maxRecDepth 100000 in
set_option maxHeartbeats 1000000 in
theorem same49_any (R S : Ro) (a b : RA) (w : World) (h : RR w a R) (h' : RR w b S) :
    Calls Tryd.prog 11 #[rval a R, rval b S] w fun e w' => e = .returned (.bool (sameRo R S)) ∧ Below w.heap.size w w' := by
  obtain ⟨KA, kn, kc, CA, cn, cc⟩ := a
  obtain ⟨LA, ln, lc, DA, dn, dc⟩ := b
  have H := Lib.hid h
  have H' := Lib.hid h'
  clear h h'
  have B0 : Hid (Blk ((w.alloc (Obj.cells (rarr ⟨KA, kn, kc, CA, cn, cc⟩ R) 30)).alloc (Obj.cells (rarr ⟨LA, ln, lc, DA, dn, dc⟩ S) 30)) w.heap.size 30 (rarr ⟨KA, kn, kc, CA, cn, cc⟩ R)) := (Blk.new_at rfl).alloc _
  have B1 : Hid (Blk ((w.alloc (Obj.cells (rarr ⟨KA, kn, kc, CA, cn, cc⟩ R) 30)).alloc (Obj.cells (rarr ⟨LA, ln, lc, DA, dn, dc⟩ S) 30)) (w.heap.size + 1) 30 (rarr ⟨LA, ln, lc, DA, dn, dc⟩ S)) := Blk.new_at (by simp)
  have BE : Hid (Below w.heap.size w ((w.alloc (Obj.cells (rarr ⟨KA, kn, kc, CA, cn, cc⟩ R) 30)).alloc (Obj.cells (rarr ⟨LA, ln, lc, DA, dn, dc⟩ S) 30))) := ((Below.refl _ _).alloc (Nat.le_refl _) _).alloc (by simp) _
  go_enter Tryd.func11, Tryd.ntmps11
  go_upto_region 1 with fail
  change (Code.region 1 _ _).wp _ _ _ ((w.alloc (Obj.cells (rarr ⟨KA, kn, kc, CA, cn, cc⟩ R) 30)).alloc (Obj.cells (rarr ⟨LA, ln, lc, DA, dn, dc⟩ S) 30))
  generalize (w.alloc (Obj.cells (rarr ⟨KA, kn, kc, CA, cn, cc⟩ R) 30)).alloc (Obj.cells (rarr ⟨LA, ln, lc, DA, dn, dc⟩ S) 30) = wa at *
  obtain ⟨q0, q1, q2, q3, q4, q5, qz⟩ := blk_ro B0.out
  obtain ⟨r0, r1, r2, r3, r4, r5, rz⟩ := blk_ro B1.out
  simp only at q1 q5 r1 r5
  clear qz rz
  have HV : Hid (sameRo R S = ((R.sp.toList == S.sp.toList) && (R.ep == S.ep) && (R.ver == S.ver) && (R.ha == S.ha) && sameK R.ks S.ks && sameCs R.cs S.cs)) := rfl
  cases h1 : (R.sp.toList == S.sp.toList)
  · have HF : Hid (sameRo R S = false) := by rw [Hid, HV.out, h1]; rfl
    go_wp2_with fail
    go_ret
    exact ⟨by rw [HF.out]; rfl, BE.out⟩
  cases h2 : (R.ep == S.ep)
  · have HF : Hid (sameRo R S = false) := by rw [Hid, HV.out, h1, h2]; rfl
    go_wp2_with fail
    go_ret
    exact ⟨by rw [HF.out]; rfl, BE.out⟩
  cases h3 : (R.ver == S.ver)
  · have HF : Hid (sameRo R S = false) := by rw [Hid, HV.out, h1, h2, h3]; rfl
    go_wp2_with fail
    go_ret
    exact ⟨by rw [HF.out]; rfl, BE.out⟩
  cases h4 : (R.ha == S.ha)
  · have HF : Hid (sameRo R S = false) := by rw [Hid, HV.out, h1, h2, h3, h4]; rfl
    go_wp2_with fail
    go_ret
    exact ⟨by rw [HF.out]; rfl, BE.out⟩
  have HV1 : Hid (sameRo R S = (sameK R.ks S.ks && sameCs R.cs S.cs)) := by rw [Hid, HV.out, h1, h2, h3, h4]; rfl
  clear HV
  go_wp2_with fail
  clear q0 q1 q2 q3 q4 q5 r0 r1 r2 r3 r4 r5
  refine (sameO_any R.ks S.ks KA LA kn kc ln lc wa (H.out.ks.step BE.out) (H'.out.ks.step BE.out)).mono ?_
  rintro e w1 ⟨rfl, hb1⟩
  cases h5 : sameK R.ks S.ks
  · have HF : Hid (sameRo R S = false) := by rw [Hid, HV1.out, h5]; rfl
    go_wp2_with fail
    go_ret
    exact ⟨by rw [HF.out]; rfl, BE.out.step' hb1⟩
  obtain ⟨q0, q1, q2, q3, q4, q5, qz⟩ := blk_ro (B0.out.step hb1)
  obtain ⟨r0, r1, r2, r3, r4, r5, rz⟩ := blk_ro (B1.out.step hb1)
  simp only at q1 q5 r1 r5
  have CE := Lib.hid (BE.out.step' hb1)
  clear hb1 qz rz
  go_wp2_with fail
  clear q0 q1 q2 q3 q4 q5 r0 r1 r2 r3 r4 r5
  refine (sameCh_any R.cs S.cs CA DA cn cc dn dc w1 (H.out.cs.step CE.out) (H'.out.cs.step CE.out)).mono ?_
  rintro e w2 ⟨rfl, hb2⟩
  have HF : Hid (sameRo R S = sameCs R.cs S.cs) := by rw [Hid, HV1.out, h5]; rfl
  go_wp2_with fail
  go_ret
  exact ⟨by rw [HF.out]; rfl, CE.out.step' hb2⟩

end Go.Proofs.YtgcklgkhdokchaaDoor
