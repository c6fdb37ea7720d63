/- The contracts of the reference's empty, contains and Has. -/
import Derived.Test.YtdmabhbhlnpkgaaDoorIvBaseA
import Derived.Test.YtdmabhbhlnpkgaaDoorValFormed
import Derived.Test.YtdmabhbhlnpkgaaDoorValRefCmp
namespace Go.Proofs.YtdmabhbhlnpkgaaDoor
open Go.RowKit

theorem ne_valid {p : PI} (h1 : validV p.1.1.2 = true) (h2 : validV p.1.2.2 = true) : (ivP p).ne = decide (cmC (p.1.1.2, !p.2.1) (p.1.2.2, p.2.2) < 0) := by
  show (validV p.1.1.2 && validV p.1.2.2 && decide (cmC (p.1.1.2, !p.2.1) (p.1.2.2, p.2.2) < 0)) = _
  rw [h1, h2]; rfl
theorem cmC_pos {a b : Cut} (h : 0 < cmpV a.1 b.1) : ¬ cmC a b < 0 := by rw [cmC_ne (by omega)]; omega
theorem cmC_neg {a b : Cut} (h : cmpV a.1 b.1 < 0) : cmC a b < 0 := by rw [cmC_ne (by omega)]; exact h

set_option maxHeartbeats 1000000 in
theorem rempty_any (p : PI) (w : World) (h : okI w p) : Calls Tryd.prog 36 #[aggI p] w fun e w' => e = .returned (.bool (!(ivP p).ne)) ∧ Below w.heap.size w w' := by
  have H := Lib.hid h
  have A0 := Lib.hid ((Below.refl w.heap.size w).alloc (Nat.le_refl _) (Obj.cells (arrI p) 37))
  have B0 : Hid (Blk (w.alloc (Obj.cells (arrI p) 37)) w.heap.size 37 (arrI p)) := Blk.new_at rfl
  clear h
  go_enter Tryd.func36, Tryd.ntmps36
  go_wp2_with fail
  refine (rvalid_any p.1.1.2 p.1.1.1 _ (H.out.step A0.out).1).mono ?_
  rintro e w1 ⟨rfl, hb1⟩
  have A1 := Lib.hid (A0.out.step' hb1)
  have B1 := Lib.hid (B0.out.step hb1)
  clear hb1 A0 B0
  cases h1 : validV p.1.1.2
  · have HR := Lib.hid (ne_false1 h1)
    clear h1
    go_wp2_with fail
    go_ret
    exact ⟨by rw [HR.out]; rfl, A1.out⟩
  have V1 := Lib.hid h1
  clear h1
  obtain ⟨_, ⟨q0, q1, q2, q3, q4⟩, _, _⟩ := IAt.of_blk B1.out
  go_wp2_with fail
  refine (rvalid_any p.1.2.2 p.1.2.1 _ (H.out.step A1.out).2).mono ?_
  rintro e w2 ⟨rfl, hb2⟩
  have A2 := Lib.hid (A1.out.step' hb2)
  have B2 := Lib.hid (B1.out.step hb2)
  clear hb2 A1 B1 q0 q1 q2 q3 q4
  cases h2 : validV p.1.2.2
  · have HR := Lib.hid (ne_false2 h2)
    clear h2
    go_wp2_with fail
    go_ret
    exact ⟨by rw [HR.out]; rfl, A2.out⟩
  have HR := Lib.hid (ne_valid V1.out h2)
  clear h2
  obtain ⟨⟨p0, p1, p2, p3, p4⟩, ⟨q0, q1, q2, q3, q4⟩, _, _⟩ := IAt.of_blk B2.out
  go_wp2_with fail
  refine (rcmp_any p.1.1.2 p.1.2.2 p.1.1.1 p.1.2.1 _ (H.out.step A2.out).1 (H.out.step A2.out).2).mono ?_
  rintro e w3 ⟨rfl, hb3⟩
  have A3 := Lib.hid (A2.out.step' hb3)
  have B3 := Lib.hid (B2.out.step hb3)
  clear hb3 A2 B2 p0 p1 p2 p3 p4 q0 q1 q2 q3 q4
  rcases Int.lt_trichotomy (cmpV p.1.1.2 p.1.2.2) 0 with hc | hc | hc
  · have HD := Lib.hid (decide_eq_true (cmC_neg (a := (p.1.1.2, !p.2.1)) (b := (p.1.2.2, p.2.2)) hc))
    have g1 : decide (0 < cmpV p.1.1.2 p.1.2.2) = false := decide_eq_false (by omega)
    have g2 : (cmpV p.1.1.2 p.1.2.2 == 0) = false := by simp; omega
    clear hc
    go_wp2_with fail
    go_ret
    exact ⟨by rw [HR.out, HD.out]; rfl, A3.out⟩
  · have HD := Lib.hid (cmC_zero (a := (p.1.1.2, !p.2.1)) (b := (p.1.2.2, p.2.2)) hc)
    rw [hc]
    clear hc
    obtain ⟨_, _, r0, r1⟩ := IAt.of_blk B3.out
    cases e1 : p.2.1 <;> cases e2 : p.2.2
    all_goals
      rw [e1] at r0
      rw [e2] at r1
      rw [e1, e2] at HD HR
      clear e1 e2
      go_wp2_with fail
      go_ret
      exact ⟨by rw [HR.out, HD.out]; rfl, A3.out⟩
  · have HD := Lib.hid (decide_eq_false (cmC_pos (a := (p.1.1.2, !p.2.1)) (b := (p.1.2.2, p.2.2)) hc))
    go_wp2_with fail
    go_ret
    exact ⟨by rw [HR.out, HD.out]; rfl, A3.out⟩

/-- an interval contains a value -/
noncomputable def inIvB (p : PI) (v : Val) : Bool := (ivP p).ne && decide (cmC (p.1.1.2, !p.2.1) (v, false) ≤ 0) && decide (cmC (v, false) (p.1.2.2, p.2.2) < 0)
theorem lo_ways (p : PI) (v : Val) : (cmpV p.1.1.2 v < 0 ∧ decide (cmC (p.1.1.2, !p.2.1) (v, false) ≤ 0) = true) ∨ (cmpV p.1.1.2 v = 0 ∧ decide (cmC (p.1.1.2, !p.2.1) (v, false) ≤ 0) = p.2.1) ∨ (0 < cmpV p.1.1.2 v ∧ decide (cmC (p.1.1.2, !p.2.1) (v, false) ≤ 0) = false) := by
  rcases Int.lt_trichotomy (cmpV p.1.1.2 v) 0 with hc | hc | hc
  · exact .inl ⟨hc, decide_eq_true (by have := cmC_neg (a := (p.1.1.2, !p.2.1)) (b := (v, false)) hc; omega)⟩
  · refine .inr (.inl ⟨hc, ?_⟩)
    rw [cmC_zero (a := (p.1.1.2, !p.2.1)) (b := (v, false)) hc]
    show decide (cmB (!p.2.1) false ≤ 0) = p.2.1
    cases p.2.1 <;> decide
  · refine .inr (.inr ⟨hc, decide_eq_false ?_⟩)
    rw [cmC_ne (a := (p.1.1.2, !p.2.1)) (b := (v, false)) (by show cmpV p.1.1.2 v ≠ 0; omega)]
    show ¬ cmpV p.1.1.2 v ≤ 0
    omega
theorem hi_ways (p : PI) (v : Val) : (cmpV v p.1.2.2 < 0 ∧ decide (cmC (v, false) (p.1.2.2, p.2.2) < 0) = true) ∨ (cmpV v p.1.2.2 = 0 ∧ decide (cmC (v, false) (p.1.2.2, p.2.2) < 0) = p.2.2) ∨ (0 < cmpV v p.1.2.2 ∧ decide (cmC (v, false) (p.1.2.2, p.2.2) < 0) = false) := by
  rcases Int.lt_trichotomy (cmpV v p.1.2.2) 0 with hc | hc | hc
  · exact .inl ⟨hc, decide_eq_true (cmC_neg (a := (v, false)) (b := (p.1.2.2, p.2.2)) hc)⟩
  · refine .inr (.inl ⟨hc, ?_⟩)
    rw [cmC_zero (a := (v, false)) (b := (p.1.2.2, p.2.2)) hc]
    show decide (cmB false p.2.2 < 0) = p.2.2
    cases p.2.2 <;> decide
  · exact .inr (.inr ⟨hc, decide_eq_false (cmC_pos (a := (v, false)) (b := (p.1.2.2, p.2.2)) hc)⟩)

set_option maxRecDepth 100000 in
set_option maxHeartbeats 2000000 in
theorem rcontains_any (p : PI) (c : VC) (v : Val) (w : World) (h : okI w p) (hv : RW w c v) : Calls Tryd.prog 42 #[aggI p, c.val] w fun e w' => e = .returned (.bool (inIvB p v)) ∧ Below w.heap.size w w' := by
  have H := Lib.hid h
  have HV := Lib.hid hv
  have A0 := ((Below.refl w.heap.size w).alloc (Nat.le_refl _) (Obj.cells (arrI p) 37)).alloc (by simp) (Obj.cells c.arr 30)
  have B0 : Blk ((w.alloc (Obj.cells (arrI p) 37)).alloc (Obj.cells c.arr 30)) w.heap.size 37 (arrI p) := (Blk.new_at rfl).alloc _
  have B1 : Blk ((w.alloc (Obj.cells (arrI p) 37)).alloc (Obj.cells c.arr 30)) (w.heap.size + 1) 30 c.arr := Blk.new_at (by simp)
  clear h hv
  go_enter Tryd.func42, Tryd.ntmps42
  go_upto_region 1 with fail
  change (Code.region 1 _ _).wp _ _ _ ((w.alloc (Obj.cells (arrI p) 37)).alloc (Obj.cells c.arr 30))
  generalize ((w.alloc (Obj.cells (arrI p) 37)).alloc (Obj.cells c.arr 30)) = wa at *
  obtain ⟨⟨p0, p1, p2, p3, p4⟩, ⟨q0, q1, q2, q3, q4⟩, _, _⟩ := IAt.of_blk B0
  obtain ⟨x0, x1, x2, x3, x4⟩ := VAt.of_blk B1
  have P0 : ∀ kk : BW wa, kk.val.cell? ⟨w.heap.size, 0, none⟩ = some (.int .i64 p.1.1.1.k) := fun kk => kk.cell p0
  have P1 : ∀ kk : BW wa, kk.val.cell? ⟨w.heap.size, 1, none⟩ = some (.int .i64 p.1.1.1.n) := fun kk => kk.cell p1
  have P2 : ∀ kk : BW wa, kk.val.cell? ⟨w.heap.size, 2, none⟩ = some (.string p.1.1.1.t) := fun kk => kk.cell p2
  have P3 : ∀ kk : BW wa, kk.val.cell? ⟨w.heap.size, 3, none⟩ = some (.slice p.1.1.1.LA p.1.1.1.ln p.1.1.1.lc) := fun kk => kk.cell p3
  have P4 : ∀ kk : BW wa, kk.val.cell? ⟨w.heap.size, 4, none⟩ = some (.slice p.1.1.1.DA p.1.1.1.dn p.1.1.1.dc) := fun kk => kk.cell p4
  have Q0 : ∀ kk : BW wa, kk.val.cell? ⟨w.heap.size, 5, none⟩ = some (.int .i64 p.1.2.1.k) := fun kk => kk.cell q0
  have Q1 : ∀ kk : BW wa, kk.val.cell? ⟨w.heap.size, 6, none⟩ = some (.int .i64 p.1.2.1.n) := fun kk => kk.cell q1
  have Q2 : ∀ kk : BW wa, kk.val.cell? ⟨w.heap.size, 7, none⟩ = some (.string p.1.2.1.t) := fun kk => kk.cell q2
  have Q3 : ∀ kk : BW wa, kk.val.cell? ⟨w.heap.size, 8, none⟩ = some (.slice p.1.2.1.LA p.1.2.1.ln p.1.2.1.lc) := fun kk => kk.cell q3
  have Q4 : ∀ kk : BW wa, kk.val.cell? ⟨w.heap.size, 9, none⟩ = some (.slice p.1.2.1.DA p.1.2.1.dn p.1.2.1.dc) := fun kk => kk.cell q4
  have X0 : ∀ kk : BW wa, kk.val.cell? ⟨w.heap.size + 1, 0, none⟩ = some (.int .i64 c.k) := fun kk => kk.cell x0
  have X1 : ∀ kk : BW wa, kk.val.cell? ⟨w.heap.size + 1, 1, none⟩ = some (.int .i64 c.n) := fun kk => kk.cell x1
  have X2 : ∀ kk : BW wa, kk.val.cell? ⟨w.heap.size + 1, 2, none⟩ = some (.string c.t) := fun kk => kk.cell x2
  have X3 : ∀ kk : BW wa, kk.val.cell? ⟨w.heap.size + 1, 3, none⟩ = some (.slice c.LA c.ln c.lc) := fun kk => kk.cell x3
  have X4 : ∀ kk : BW wa, kk.val.cell? ⟨w.heap.size + 1, 4, none⟩ = some (.slice c.DA c.dn c.dc) := fun kk => kk.cell x4
  have K1 : Hid (∀ kk : BW wa, Calls Tryd.prog 22 #[p.1.1.1.val, c.val] kk.val fun e w'' => e = .returned (.int .i64 (cmpV p.1.1.2 v)) ∧ ∃ kk : BW wa, w'' = kk.val) := fun kk =>
    Calls.bw (rcmp_any p.1.1.2 v p.1.1.1 c kk.val ((H.out.step A0).1.step kk.below) ((HV.out.step A0).step kk.below))
  have K2 : Hid (∀ kk : BW wa, Calls Tryd.prog 22 #[c.val, p.1.2.1.val] kk.val fun e w'' => e = .returned (.int .i64 (cmpV v p.1.2.2)) ∧ ∃ kk : BW wa, w'' = kk.val) := fun kk =>
    Calls.bw (rcmp_any v p.1.2.2 c p.1.2.1 kk.val ((HV.out.step A0).step kk.below) ((H.out.step A0).2.step kk.below))
  have C0 := Lib.hid B0
  have Z0 := Lib.hid A0
  clear p0 p1 p2 p3 p4 q0 q1 q2 q3 q4 x0 x1 x2 x3 x4 A0 B0 B1
  refine wp_region_bw (by kernel_rfl) (by kernel_rfl) ?_
  repeat (go_big_quiet_step (first | (with_reducible exact K1.out _) | (with_reducible exact K2.out _)))
  refine wpQuiet_nil ?_
  rintro _ ⟨kw, rfl⟩
  have C1 := Lib.hid (C0.out.step kw.below)
  have Z1 := Lib.hid (Z0.out.step' kw.below)
  clear P0 P1 P2 P3 P4 Q0 Q1 Q2 Q3 Q4 X0 X1 X2 X3 X4 K1 K2 C0 Z0
  generalize kw.val = w1 at *
  obtain ⟨⟨p0, p1, p2, p3, p4⟩, ⟨q0, q1, q2, q3, q4⟩, r0, r1⟩ := IAt.of_blk C1.out
  go_wp2_with fail
  refine (rempty_any p _ (H.out.step Z1.out)).mono ?_
  rintro e w2 ⟨rfl, hb2⟩
  have C2 := Lib.hid (C1.out.step hb2)
  have Z2 := Lib.hid (Z1.out.step' hb2)
  clear hb2 p0 p1 p2 p3 p4 q0 q1 q2 q3 q4 r0 r1 C1 Z1
  obtain ⟨_, _, r0, r1⟩ := IAt.of_blk C2.out
  cases hne : (ivP p).ne
  · have HR : Hid (inIvB p v = false) := by unfold Hid inIvB; rw [hne]; rfl
    clear hne
    go_wp2_with fail
    go_ret
    exact ⟨by rw [HR.out]; rfl, Z2.out⟩
  · have HR : Hid (inIvB p v = (decide (cmC (p.1.1.2, !p.2.1) (v, false) ≤ 0) && decide (cmC (v, false) (p.1.2.2, p.2.2) < 0))) := by unfold Hid inIvB; rw [hne]; rfl
    clear hne
    rcases lo_ways p v with ⟨a1, a2⟩ | ⟨a1, a2⟩ | ⟨a1, a2⟩
    · have f1 : decide (cmpV p.1.1.2 v < 0) = true := decide_eq_true a1
      have HA := Lib.hid a2
      clear a1 a2
      rcases hi_ways p v with ⟨b1, b2⟩ | ⟨b1, b2⟩ | ⟨b1, b2⟩
      · have g1 : decide (cmpV v p.1.2.2 < 0) = true := decide_eq_true b1
        have HB := Lib.hid b2
        clear b1 b2
        go_wp2_with fail
        go_ret
        exact ⟨by rw [HR.out, HA.out, HB.out]; rfl, Z2.out⟩
      · rw [b1]
        have HB := Lib.hid b2
        clear b1 b2
        cases e2 : p.2.2
        all_goals
          have HB2 := Lib.hid (HB.out.trans e2)
          rw [e2] at r1
          clear e2
          go_wp2_with fail
          go_ret
          exact ⟨by rw [HR.out, HA.out, HB2.out]; rfl, Z2.out⟩
      · have g1 : decide (cmpV v p.1.2.2 < 0) = false := decide_eq_false (by omega)
        have g2 : (cmpV v p.1.2.2 == 0) = false := by simp; omega
        have HB := Lib.hid b2
        clear b1 b2
        go_wp2_with fail
        go_ret
        exact ⟨by rw [HR.out, HA.out, HB.out]; rfl, Z2.out⟩
    · rw [a1]
      have HA := Lib.hid a2
      clear a1 a2
      cases e1 : p.2.1
      · have HA2 := Lib.hid (HA.out.trans e1)
        rw [e1] at r0
        clear e1
        go_wp2_with fail
        go_ret
        exact ⟨by rw [HR.out, HA2.out]; rfl, Z2.out⟩
      replace HA := Lib.hid (HA.out.trans e1)
      rw [e1] at r0
      clear e1
      rcases hi_ways p v with ⟨b1, b2⟩ | ⟨b1, b2⟩ | ⟨b1, b2⟩
      · have g1 : decide (cmpV v p.1.2.2 < 0) = true := decide_eq_true b1
        have HB := Lib.hid b2
        clear b1 b2
        go_wp2_with fail
        go_ret
        exact ⟨by rw [HR.out, HA.out, HB.out]; rfl, Z2.out⟩
      · rw [b1]
        have HB := Lib.hid b2
        clear b1 b2
        cases e2 : p.2.2
        all_goals
          have HB2 := Lib.hid (HB.out.trans e2)
          rw [e2] at r1
          clear e2
          go_wp2_with fail
          go_ret
          exact ⟨by rw [HR.out, HA.out, HB2.out]; rfl, Z2.out⟩
      · have g1 : decide (cmpV v p.1.2.2 < 0) = false := decide_eq_false (by omega)
        have g2 : (cmpV v p.1.2.2 == 0) = false := by simp; omega
        have HB := Lib.hid b2
        clear b1 b2
        go_wp2_with fail
        go_ret
        exact ⟨by rw [HR.out, HA.out, HB.out]; rfl, Z2.out⟩
    · have f1 : decide (cmpV p.1.1.2 v < 0) = false := decide_eq_false (by omega)
      have f2 : (cmpV p.1.1.2 v == 0) = false := by simp; omega
      have HA := Lib.hid a2
      clear a1 a2
      go_wp2_with fail
      go_ret
      exact ⟨by rw [HR.out, HA.out]; rfl, Z2.out⟩

theorem in_iv {p : PI} {v : Val} : inIvB p v = true ↔ ((ivP p).ne = true ∧ inS cmC (v, false) [(ivP p).sp]) := by
  unfold inIvB
  rw [inS_one]
  simp only [Bool.and_eq_true, decide_eq_true_eq, and_assoc]
  exact Iff.rfl
theorem has_snoc {is : List PI} {i : Nat} {p : PI} {v : Val} (hp : is[i]? = some p) : inS cmC (v, false) (spansL ((is.take (i + 1)).map ivP)) ↔ inS cmC (v, false) (spansL ((is.take i).map ivP)) ∨ inIvB p v = true := by
  rw [take_snoc' hp, List.map_append, List.map_singleton, spansL_snoc, in_iv]
  cases h : (ivP p).ne
  · simp
  · simp only [if_true, true_and]
    rw [inS_app]

set_option maxRecDepth 100000 in
set_option maxHeartbeats 2000000 in
theorem rhas_any (is : List PI) (A : Option Addr) (n c : Nat) (v : Val) (cv : VC) (w : World) (h : SI w A n c is) (hv : RW w cv v) :
    Calls Tryd.prog 19 #[.slice A n c, cv.val] w fun e w' => e = .returned (.bool (hasV (is.map ivP) v)) ∧ Below w.heap.size w w' := by
  have H := Lib.hid h
  have HL := Lib.hid h.sr.ln
  have HV := Lib.hid hv
  have hz := h.sz
  unfold reach at hz
  have A0 := Lib.hid ((Below.refl w.heap.size w).alloc (Nat.le_refl _) (Obj.cells cv.arr 30))
  have B0 : Hid (Blk (w.alloc (Obj.cells cv.arr 30)) w.heap.size 30 cv.arr) := Blk.new_at rfl
  clear h hv
  go_enter Tryd.func19, Tryd.ntmps19
  go_wp2_with fail
  refine (rvalid_any v cv _ (HV.out.step A0.out)).mono ?_
  rintro e w1 ⟨rfl, hb1⟩
  have A1 := Lib.hid (A0.out.step' hb1)
  have B1 := Lib.hid (B0.out.step hb1)
  clear hb1 A0 B0
  cases hvv : validV v
  · have HF := Lib.hid (hasV_false (l := is.map ivP) (v := v) (by rw [hvv]; simp))
    clear hvv
    go_wp2_with fail
    go_ret
    exact ⟨by rw [HF.out]; rfl, A1.out⟩
  have HVV := Lib.hid hvv
  clear hvv
  go_wp2_with fail
  go_loopw [5] (fun v5 wr => ∃ i : Nat, i ≤ n ∧ v5 = .int .i64 i ∧ ¬ inS cmC (v, false) (spansL ((is.take i).map ivP)) ∧ HaB w cv w1 wr) (fun v5 _ => n - (intOf v5).toNat)
  case atStart => exact ⟨0, Nat.zero_le _, rfl, inS_nil _, ⟨B1.out, Below.refl _ _⟩⟩
  case round =>
    obtain ⟨i, hi, rfl, hno, I⟩ := hrel
    have J := Lib.hid I
    have HNo := Lib.hid hno
    clear hno
    by_cases hlt : i < n
    · obtain ⟨p, hp⟩ : ∃ p, is[i]? = some p := ⟨_, List.getElem?_eq_getElem (by have := HL.out; omega)⟩
      obtain ⟨b, off, rfl, hbl, hat, hok⟩ := H.out.at hp
      have HP := Lib.hid hp
      have hwr : Below w.heap.size w wr := A1.out.step' I.bel
      obtain ⟨⟨p0, p1, p2, p3, p4⟩, ⟨q0, q1, q2, q3, q4⟩, r0, r1⟩ := hat.keep (hwr.block b hbl)
      obtain ⟨x0, x1, x2, x3, x4⟩ := VAt.of_blk I.b0
      have P0 : ∀ kk : BW wr, kk.val.cell? ⟨b, off + i * 12, none⟩ = some (.int .i64 p.1.1.1.k) := fun kk => kk.cell p0
      have P1 : ∀ kk : BW wr, kk.val.cell? ⟨b, off + i * 12 + 1, none⟩ = some (.int .i64 p.1.1.1.n) := fun kk => kk.cell p1
      have P2 : ∀ kk : BW wr, kk.val.cell? ⟨b, off + i * 12 + 2, none⟩ = some (.string p.1.1.1.t) := fun kk => kk.cell p2
      have P3 : ∀ kk : BW wr, kk.val.cell? ⟨b, off + i * 12 + 3, none⟩ = some (.slice p.1.1.1.LA p.1.1.1.ln p.1.1.1.lc) := fun kk => kk.cell p3
      have P4 : ∀ kk : BW wr, kk.val.cell? ⟨b, off + i * 12 + 4, none⟩ = some (.slice p.1.1.1.DA p.1.1.1.dn p.1.1.1.dc) := fun kk => kk.cell p4
      have Q0 : ∀ kk : BW wr, kk.val.cell? ⟨b, off + i * 12 + 5, none⟩ = some (.int .i64 p.1.2.1.k) := fun kk => kk.cell q0
      have Q1 : ∀ kk : BW wr, kk.val.cell? ⟨b, off + i * 12 + 5 + 1, none⟩ = some (.int .i64 p.1.2.1.n) := fun kk => kk.cell q1
      have Q2 : ∀ kk : BW wr, kk.val.cell? ⟨b, off + i * 12 + 5 + 2, none⟩ = some (.string p.1.2.1.t) := fun kk => kk.cell q2
      have Q3 : ∀ kk : BW wr, kk.val.cell? ⟨b, off + i * 12 + 5 + 3, none⟩ = some (.slice p.1.2.1.LA p.1.2.1.ln p.1.2.1.lc) := fun kk => kk.cell q3
      have Q4 : ∀ kk : BW wr, kk.val.cell? ⟨b, off + i * 12 + 5 + 4, none⟩ = some (.slice p.1.2.1.DA p.1.2.1.dn p.1.2.1.dc) := fun kk => kk.cell q4
      have X0 : ∀ kk : BW wr, kk.val.cell? ⟨w.heap.size, 0, none⟩ = some (.int .i64 cv.k) := fun kk => kk.cell x0
      have X1 : ∀ kk : BW wr, kk.val.cell? ⟨w.heap.size, 1, none⟩ = some (.int .i64 cv.n) := fun kk => kk.cell x1
      have X2 : ∀ kk : BW wr, kk.val.cell? ⟨w.heap.size, 2, none⟩ = some (.string cv.t) := fun kk => kk.cell x2
      have X3 : ∀ kk : BW wr, kk.val.cell? ⟨w.heap.size, 3, none⟩ = some (.slice cv.LA cv.ln cv.lc) := fun kk => kk.cell x3
      have X4 : ∀ kk : BW wr, kk.val.cell? ⟨w.heap.size, 4, none⟩ = some (.slice cv.DA cv.dn cv.dc) := fun kk => kk.cell x4
      have R0 : ∀ kk : BW wr, kk.val.cell? ⟨b, off + i * 12 + 10, none⟩ = some (.bool p.2.1) := fun kk => kk.cell r0
      have R1 : ∀ kk : BW wr, kk.val.cell? ⟨b, off + i * 12 + 11, none⟩ = some (.bool p.2.2) := fun kk => kk.cell r1
      have i0 : (0 : Int) ≤ (i : Int) := by omega
      have i1 : (i : Int) < (n : Int) := by omega
      have K1 : Hid (∀ kk : BW wr, Calls Tryd.prog 42 #[aggI p, cv.val] kk.val fun e w'' => e = .returned (.bool (inIvB p v)) ∧ ∃ kk : BW wr, w'' = kk.val) := fun kk =>
        Calls.bw (rcontains_any p cv v kk.val ((hok.step hwr).step kk.below) ((HV.out.step hwr).step kk.below))
      clear p0 p1 p2 p3 p4 q0 q1 q2 q3 q4 r0 r1 x0 x1 x2 x3 x4 hp hat hok I hwr
      go_upto_region 6 with fail
      refine wp_region_bw (by kernel_rfl) (by kernel_rfl) ?_
      repeat (go_big_quiet_step (with_reducible exact K1.out _))
      refine wpQuiet_nil ?_
      rintro _ ⟨kw, rfl⟩
      have J2 := Lib.hid (J.out.step kw.below)
      clear P0 P1 P2 P3 P4 Q0 Q1 Q2 Q3 Q4 R0 R1 X0 X1 X2 X3 X4 K1 i0 i1 J
      generalize kw.val = w2 at *
      cases hc : inIvB p v
      · have HR : Hid (¬ inS cmC (v, false) (spansL ((is.take (i + 1)).map ivP))) := by
          rw [Hid, has_snoc HP.out, hc]
          simpa using HNo.out
        clear hc
        go_wp2_with fail
        go_roundw
        case rel => exact ⟨i + 1, by omega, by go_num, HR.out, J2.out⟩
        case measure => simp [intOf]; omega
      · have HR := Lib.hid (hasV_true (l := is.map ivP) HVV.out (by
          have hm := List.mem_of_getElem? HP.out
          obtain ⟨h1, s, hs, h2⟩ := in_iv.1 hc
          simp at hs
          subst hs
          exact ⟨_, List.mem_map_of_mem (List.mem_filter.2 ⟨List.mem_map_of_mem hm, h1⟩), h2⟩))
        clear hc
        go_wp2_with fail
        go_ret
        exact ⟨by rw [HR.out]; rfl, A1.out.step' J2.out.bel⟩
    · have HF := Lib.hid (hasV_false (l := is.map ivP) (v := v) (by rintro ⟨_, k⟩; have h0 := HNo.out; rw [List.take_of_length_le (by have := HL.out; omega)] at h0; exact h0 k))
      clear I
      go_wp2_with fail
      go_ret
      exact ⟨by rw [HF.out]; rfl, A1.out.step' J.out.bel⟩

end Go.Proofs.YtdmabhbhlnpkgaaDoor
