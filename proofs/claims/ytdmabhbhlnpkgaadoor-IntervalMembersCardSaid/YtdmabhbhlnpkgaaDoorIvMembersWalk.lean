/- The walk of the law IntervalMembers. (Printed by gen_members24.py.) -/
import Derived.Test.YtdmabhbhlnpkgaaDoorIvBaseD
import Derived.Test.YtdmabhbhlnpkgaaDoorIvRefA
import Derived.Deep.RegionHeld3
namespace Go.Proofs.YtdmabhbhlnpkgaaDoor
open Go.RowKit

theorem take_at {l rest : List Oper} {i : Nat} {o : Oper} (h : l.drop i = o :: rest) : l.toArray[i]? = some o := by
  have := congrArg List.head? h
  rw [List.head?_drop] at this
  simpa using this
theorem hasV_eq {l : List Iv} {v : Val} {b : Bool} (h : (validV v = true ∧ inS cmC (v, false) (spansL l)) ↔ b = true) : hasV l v = b := by
  cases b
  · exact hasV_false fun k => absurd (h.1 k) (by simp)
  · exact hasV_iff.2 (h.2 rfl)
section
variable {ya yb yn : List PI} {qn : List (Cut × Cut)} {v : Val}
theorem has_meet (he : yn.map ivP = qn.map ivOf) (hn : IsNF (fun a => inS cmC a (spansL (ya.map ivP)) ∧ inS cmC a (spansL (yb.map ivP))) qn) : hasV (yn.map ivP) v = (hasV (ya.map ivP) v && hasV (yb.map ivP) v) := by
  refine hasV_eq ?_
  rw [Bool.and_eq_true, hasV_iff, hasV_iff, show inS cmC (v, false) (spansL (yn.map ivP)) ↔ _ from Nrm.mem ⟨qn, he, hn⟩ (v, false)]
  exact ⟨fun h => ⟨⟨h.1, h.2.1⟩, h.1, h.2.2⟩, fun h => ⟨h.1.1, h.1.2, h.2.2⟩⟩
theorem has_union (he : yn.map ivP = qn.map ivOf) (hn : IsNF (fun a => inS cmC a (spansL (ya.map ivP)) ∨ inS cmC a (spansL (yb.map ivP))) qn) : hasV (yn.map ivP) v = (hasV (ya.map ivP) v || hasV (yb.map ivP) v) := by
  refine hasV_eq ?_
  rw [Bool.or_eq_true, hasV_iff, hasV_iff, show inS cmC (v, false) (spansL (yn.map ivP)) ↔ _ from Nrm.mem ⟨qn, he, hn⟩ (v, false)]
  constructor
  · rintro ⟨h1, h2 | h2⟩
    · exact .inl ⟨h1, h2⟩
    · exact .inr ⟨h1, h2⟩
  · rintro (⟨h1, h2⟩ | ⟨h1, h2⟩)
    · exact ⟨h1, .inl h2⟩
    · exact ⟨h1, .inr h2⟩
theorem in_all (h : validV v = true) : cmC (vMin, false) (v, false) ≤ 0 ∧ cmC (v, false) (vMax, true) < 0 :=
  ⟨min_le h, cut_after.1 (le_max (a := (v, true)) h)⟩
theorem has_rest (he : yn.map ivP = qn.map ivOf) (hn : IsNF (fun a => cmC (vMin, false) a ≤ 0 ∧ cmC a (vMax, true) < 0 ∧ ¬ inS cmC a (spansL (ya.map ivP))) qn) : hasV (yn.map ivP) v = (validV v && !hasV (ya.map ivP) v) := by
  refine hasV_eq ?_
  rw [Bool.and_eq_true, Bool.not_eq_true', ← Bool.not_eq_true, hasV_iff, show inS cmC (v, false) (spansL (yn.map ivP)) ↔ _ from Nrm.mem ⟨qn, he, hn⟩ (v, false)]
  constructor
  · rintro ⟨h1, _, _, h4⟩
    exact ⟨h1, fun h => h4 h.2⟩
  · rintro ⟨h1, h2⟩
    exact ⟨h1, (in_all h1).1, (in_all h1).2, fun h => h2 ⟨h1, h⟩⟩
theorem has_normal (he : yn.map ivP = qn.map ivOf) (hn : IsNF (fun a => inS cmC a (spansL (ya.map ivP))) qn) : hasV (yn.map ivP) v = hasV (ya.map ivP) v := by
  refine hasV_eq ?_
  rw [hasV_iff, show inS cmC (v, false) (spansL (yn.map ivP)) ↔ _ from Nrm.mem ⟨qn, he, hn⟩ (v, false)]
theorem has_all (he : yn.map ivP = qn.map ivOf) (hn : IsNF (fun a => inS cmC a (spansL [allIv])) qn) : hasV (yn.map ivP) v = validV v := by
  refine hasV_eq ?_
  rw [show inS cmC (v, false) (spansL (yn.map ivP)) ↔ _ from Nrm.mem ⟨qn, he, hn⟩ (v, false)]
  refine ⟨fun h => h.1, fun h => ⟨h, ?_⟩⟩
  exact (all_nf.2 _).1 (inS_one.2 (in_all h))
theorem has_points {cv : VC} (he : yn.map ivP = qn.map ivOf) (hn : IsNF (fun a => inS cmC a (spansL ([(cv, v)].map fun p : PV => ptIv p.2))) qn) : hasV (yn.map ivP) v = validV v := by
  refine hasV_eq ?_
  rw [show inS cmC (v, false) (spansL (yn.map ivP)) ↔ _ from Nrm.mem ⟨qn, he, hn⟩ (v, false)]
  refine ⟨fun h => h.1, fun h => ⟨h, ?_⟩⟩
  show inS cmC (v, false) (spansL [ptIv v])
  have e : spansL [ptIv v] = [(ptIv v).sp] := by
    unfold spansL
    rw [List.filter_cons_of_pos (by rw [pt_ne]; exact h)]
    rfl
  rw [e]
  refine inS_one.2 ⟨?_, cut_after.1 ?_⟩
  · exact Int.le_of_eq (lin_cut.self _)
  · exact Int.le_of_eq (lin_cut.self _)
end

/-- the boxes of the law -/
structure MbI (w : World) (cv : VC) (wr : World) : Prop where
  b : Blk wr w.heap.size 30 cv.arr
  bel : Below w.heap.size w wr
theorem MbI.step {w : World} {cv : VC} {wr w' : World} (h : MbI w cv wr) (hb : Below wr.heap.size wr w') : MbI w cv w' := ⟨h.b.step hb, h.bel.step' hb⟩

set_option linter.unusedSimpArgs false
set_option maxRecDepth 100000 in
set_option maxHeartbeats 8000000 in
theorem intervalMembers_walk (Aa : Option Addr) (ma ca : Nat) (ya : List PI) (Ab : Option Addr) (mb cb : Nat) (yb : List PI) (cv : VC) (v : Val) (w : World) (hT : Tabs w) (ha : SI w Aa ma ca ya) (hb : SI w Ab mb cb yb) (hv : RW w cv v) :
    Calls Tryd.prog 8 #[.slice Aa ma ca, .slice Ab mb cb, cv.val] w fun e w' => e = .returned (.bool true) ∧ Below w.heap.size w w' := by
  have HT := Lib.hid hT
  have Sa := Lib.hid ha
  have Sb := Lib.hid hb
  have Sv := Lib.hid hv
  have I : Hid (MbI w cv (w.alloc (Obj.cells cv.arr 30))) := Lib.hid ⟨Blk.new_at rfl, (Below.refl w.heap.size w).alloc (Nat.le_refl _) _⟩
  clear hT ha hb hv
  go_enter Tryd.func8, Tryd.ntmps8
  go_wp2_with fail
  refine (few_any ya Aa ma ca _ (Sa.out.step I.out.bel)).mono ?_
  rintro e w1 ⟨r, rfl, h40, hb⟩
  replace I := Lib.hid (I.out.step hb)
  clear hb
  cases r
  · clear h40
    go_wp2_with fail
    refine (awake24_any _ (HT.out.step I.out.bel)).mono ?_
    rintro e w9 ⟨rfl, hb9⟩
    go_wp2_with fail
    go_ret
    exact ⟨rfl, I.out.bel.step' hb9⟩
  have h4a : ma ≤ 40 := h40 rfl
  clear h40
  go_wp2_with fail
  refine (few_any yb Ab mb cb _ (Sb.out.step I.out.bel)).mono ?_
  rintro e w2 ⟨r, rfl, h40, hb⟩
  replace I := Lib.hid (I.out.step hb)
  clear hb
  cases r
  · clear h40
    go_wp2_with fail
    refine (awake24_any _ (HT.out.step I.out.bel)).mono ?_
    rintro e w9 ⟨rfl, hb9⟩
    go_wp2_with fail
    go_ret
    exact ⟨rfl, I.out.bel.step' hb9⟩
  have h4b : mb ≤ 40 := h40 rfl
  clear h40
  obtain ⟨x0, x1, x2, x3, x4⟩ := VAt.of_blk I.out.b
  go_wp2_with fail
  refine (fewV_any v cv _ 100 (Sv.out.step I.out.bel) (by omega) (by omega)).mono ?_
  rintro e w3 ⟨r, rfl, hb⟩
  replace I := Lib.hid (I.out.step hb)
  clear hb x0 x1 x2 x3 x4
  cases r
  · go_wp2_with fail
    refine (awake24_any _ (HT.out.step I.out.bel)).mono ?_
    rintro e w9 ⟨rfl, hb9⟩
    go_wp2_with fail
    go_ret
    exact ⟨rfl, I.out.bel.step' hb9⟩
  obtain ⟨x0, x1, x2, x3, x4⟩ := VAt.of_blk I.out.b
  go_wp2_with fail
  refine (rvalid_any v cv _ (Sv.out.step I.out.bel)).mono ?_
  rintro e w4 ⟨rfl, hb⟩
  replace I := Lib.hid (I.out.step hb)
  clear hb x0 x1 x2 x3 x4
  obtain ⟨ok, hok⟩ : ∃ r, r = validV v := ⟨_, rfl⟩
  obtain ⟨x, hx⟩ : ∃ r, r = hasV (ya.map ivP) v := ⟨_, rfl⟩
  obtain ⟨y, hy⟩ : ∃ r, r = hasV (yb.map ivP) v := ⟨_, rfl⟩
  rw [← hok]
  have hxo : x = true → ok = true := fun h => by rw [hok]; rw [hx] at h; exact (hasV_iff.1 h).1
  have hyo : y = true → ok = true := fun h => by rw [hok]; rw [hy] at h; exact (hasV_iff.1 h).1
  have EO := Lib.hid hok
  have EX := Lib.hid hx
  have EY := Lib.hid hy
  clear hok hx hy
  obtain ⟨x0, x1, x2, x3, x4⟩ := VAt.of_blk I.out.b
  have X0 : ∀ kk : BW w4, kk.val.cell? ⟨w.heap.size, 0, none⟩ = some (.int .i64 cv.k) := fun kk => kk.cell x0
  have X1 : ∀ kk : BW w4, kk.val.cell? ⟨w.heap.size, 1, none⟩ = some (.int .i64 cv.n) := fun kk => kk.cell x1
  have X2 : ∀ kk : BW w4, kk.val.cell? ⟨w.heap.size, 2, none⟩ = some (.string cv.t) := fun kk => kk.cell x2
  have X3 : ∀ kk : BW w4, kk.val.cell? ⟨w.heap.size, 3, none⟩ = some (.slice cv.LA cv.ln cv.lc) := fun kk => kk.cell x3
  have X4 : ∀ kk : BW w4, kk.val.cell? ⟨w.heap.size, 4, none⟩ = some (.slice cv.DA cv.dn cv.dc) := fun kk => kk.cell x4
  have K1 : Hid (∀ kk : BW w4, Calls Tryd.prog 18 #[.slice Aa ma ca, cv.val] kk.val fun e w'' => e = .returned (.bool x) ∧ ∃ kk : BW w4, w'' = kk.val) := fun kk =>
    Calls.bw (by rw [EX.out]; exact has_any ya Aa ma ca v cv kk.val ((HT.out.step I.out.bel).step kk.below) ((Sa.out.step I.out.bel).step kk.below) (by omega) ((Sv.out.step I.out.bel).step kk.below))
  have K2 : Hid (∀ kk : BW w4, Calls Tryd.prog 18 #[.slice Ab mb cb, cv.val] kk.val fun e w'' => e = .returned (.bool y) ∧ ∃ kk : BW w4, w'' = kk.val) := fun kk =>
    Calls.bw (by rw [EY.out]; exact has_any yb Ab mb cb v cv kk.val ((HT.out.step I.out.bel).step kk.below) ((Sb.out.step I.out.bel).step kk.below) (by omega) ((Sv.out.step I.out.bel).step kk.below))
  clear x0 x1 x2 x3 x4
  go_upto_region 4 with fail
  refine wp_region_bw (by kernel_rfl) (by kernel_rfl) ?_
  repeat (go_big_quiet_step (first | (with_reducible exact K1.out _) | (with_reducible exact K2.out _)))
  refine wpQuiet_nil ?_
  rintro _ ⟨kw, rfl⟩
  replace I := Lib.hid (I.out.step kw.below)
  clear X0 X1 X2 X3 X4 K1 K2
  generalize kw.val = w5 at *
  go_upto_region 5 with fail
  have key : (ok = true ∧ x = true ∧ y = true) ∨ (ok = true ∧ x = true ∧ y = false) ∨ (ok = true ∧ x = false ∧ y = true) ∨ (ok = true ∧ x = false ∧ y = false) ∨ (ok = false ∧ x = false ∧ y = false) := by
    cases ok <;> cases x <;> cases y <;> simp at hxo hyo ⊢
  clear hxo hyo
  rcases key with ⟨rfl, rfl, rfl⟩ | ⟨rfl, rfl, rfl⟩ | ⟨rfl, rfl, rfl⟩ | ⟨rfl, rfl, rfl⟩ | ⟨rfl, rfl, rfl⟩
  · obtain ⟨x0, x1, x2, x3, x4⟩ := VAt.of_blk I.out.b
    have B := Lib.hid ((Below.refl w5.heap.size w5).drewN 1)
    have RT := Lib.hid (HT.out.step I.out.bel)
    have RA := Lib.hid (Sa.out.step I.out.bel)
    have RB := Lib.hid (Sb.out.step I.out.bel)
    have RV := Lib.hid (Sv.out.step I.out.bel)
    have KS : Hid (∀ w', Below w5.heap.size w5 w' → w'.cell? ⟨w.heap.size, 0, none⟩ = some (.int .i64 cv.k) ∧ w'.cell? ⟨w.heap.size, 1, none⟩ = some (.int .i64 cv.n) ∧ w'.cell? ⟨w.heap.size, 2, none⟩ = some (.string cv.t) ∧ w'.cell? ⟨w.heap.size, 3, none⟩ = some (.slice cv.LA cv.ln cv.lc) ∧ w'.cell? ⟨w.heap.size, 4, none⟩ = some (.slice cv.DA cv.dn cv.dc)) := fun w' hb => ⟨(hb.cell (p := ⟨w.heap.size, 0, none⟩) I.out.b.lt).trans x0, (hb.cell (p := ⟨w.heap.size, 1, none⟩) I.out.b.lt).trans x1, (hb.cell (p := ⟨w.heap.size, 2, none⟩) I.out.b.lt).trans x2, (hb.cell (p := ⟨w.heap.size, 3, none⟩) I.out.b.lt).trans x3, (hb.cell (p := ⟨w.heap.size, 4, none⟩) I.out.b.lt).trans x4⟩
    clear x0 x1 x2 x3 x4
    refine wp_region_noPanic ?_
    refine wp_region_held_drew (S := (fun w' => w'.cell? ⟨w.heap.size, 0, none⟩ = some (.int .i64 cv.k) ∧ w'.cell? ⟨w.heap.size, 1, none⟩ = some (.int .i64 cv.n) ∧ w'.cell? ⟨w.heap.size, 2, none⟩ = some (.string cv.t) ∧ w'.cell? ⟨w.heap.size, 3, none⟩ = some (.slice cv.LA cv.ln cv.lc) ∧ w'.cell? ⟨w.heap.size, 4, none⟩ = some (.slice cv.DA cv.dn cv.dc))) (by kernel_rfl) ?_ (fun hHeld => ?_)
    · (try dsimp only); exact KS.out _ B.out
    refine wpAnyH_take (i := 0) (v := ?_) (take_at rfl) (by kernel_rfl) (by kernel_rfl) (by kernel_rfl) (fun _ _ _ h => h) (Or.inl ⟨by rfl, ?_⟩) (by assumption) ?_
    rotate_left
    · intro w' hSw; (try dsimp only at hSw); go_simp; (try with_reducible rfl)
    (try simp only [Act.put, List.setIfInBounds_toArray, List.set_cons_zero, List.set_cons_succ])
    refine wpAnyH_take (i := 1) (v := ?_) (take_at rfl) (by kernel_rfl) (by kernel_rfl) (by kernel_rfl) (fun _ _ _ h => h) (Or.inl ⟨by rfl, ?_⟩) (by assumption) ?_
    rotate_left
    · intro w' hSw; (try dsimp only at hSw); go_simp; (try with_reducible rfl)
    (try simp only [Act.put, List.setIfInBounds_toArray, List.set_cons_zero, List.set_cons_succ])
    refine wpAnyH_take (i := 3) (v := ?_) (take_at rfl) (by kernel_rfl) (by kernel_rfl) (by kernel_rfl) (fun _ _ _ h => h) (Or.inl ⟨by rfl, ?_⟩) (by assumption) ?_
    rotate_left
    · intro w' hSw; (try dsimp only at hSw); go_simp; (try with_reducible rfl)
    (try simp only [Act.put, List.setIfInBounds_toArray, List.set_cons_zero, List.set_cons_succ])
    refine wpAnyH_take (i := 5) (v := ?_) (take_at rfl) (by kernel_rfl) (by kernel_rfl) (by kernel_rfl) (fun _ _ _ h => h) (Or.inl ⟨by rfl, ?_⟩) (by assumption) ?_
    rotate_left
    · intro w' hSw; (try dsimp only at hSw); go_simp; (try with_reducible rfl)
    (try simp only [Act.put, List.setIfInBounds_toArray, List.set_cons_zero, List.set_cons_succ])
    refine wpAnyH_ready (rs := [2]) (by kernel_rfl) (by simp) ?_
    refine AllReadyH.cons (take_at rfl) (fun K hK => ?_) AllReadyH.nil
    go_simp
    refine (meet_any ya yb Aa Ab ma ca mb cb _ (RT.out.step B.out) (RA.out.step B.out) (RB.out.step B.out) (by omega) (by omega)).mono ?_
    rintro e3 wn ⟨An, mn, cn, yn, qn, rfl, he, hn, hm, hs, hb⟩
    have HVn := Lib.hid (has_meet (ya := ya) (yb := yb) (v := v) he hn)
    have Sn := Lib.hid hs
    have hmn : mn ≤ 100000 := by omega
    replace B := Lib.hid (B.out.step' hb)
    clear he hn hm hs hb
    (try go_wp2_with fail)
    refine hK.out _ _ ?_ (fun hHeld2 => ?_)
    · (try dsimp only); exact KS.out _ B.out
    clear hK K hHeld
    have hHeld := hHeld2
    clear hHeld2
    (try simp only [Act.put, List.setIfInBounds_toArray, List.set_cons_zero, List.set_cons_succ])
    refine wpAnyH_ready (rs := [4]) (by kernel_rfl) (by simp) ?_
    refine AllReadyH.cons (take_at rfl) (fun K hK => ?_) AllReadyH.nil
    go_simp
    have HC := has_any yn An mn cn v cv _ (RT.out.step B.out) Sn.out hmn (RV.out.step B.out)
    rw [HVn.out] at HC
    (try rw [← EX.out] at HC)
    (try rw [← EY.out] at HC)
    (try rw [← EO.out] at HC)
    (try simp only [Bool.and_true, Bool.and_false, Bool.true_and, Bool.false_and, Bool.or_true, Bool.or_false, Bool.true_or, Bool.false_or, Bool.not_true, Bool.not_false] at HC)
    refine HC.mono ?_
    clear HC
    rintro e3 wh ⟨rfl, hb⟩
    replace B := Lib.hid (B.out.step' hb)
    clear hb HVn Sn hmn
    (try go_wp2_with fail)
    refine hK.out _ _ ?_ (fun hHeld2 => ?_)
    · (try dsimp only); exact KS.out _ B.out
    clear hK K hHeld
    have hHeld := hHeld2
    clear hHeld2
    (try simp only [Act.put, List.setIfInBounds_toArray, List.set_cons_zero, List.set_cons_succ])
    refine wpAnyH_take (i := 6) (v := ?_) (take_at rfl) (by kernel_rfl) (by kernel_rfl) (by kernel_rfl) (fun _ _ _ h => h) (Or.inl ⟨by rfl, ?_⟩) (by assumption) ?_
    rotate_left
    · intro w' hSw; (try dsimp only at hSw); go_simp; (try with_reducible rfl)
    (try simp only [Act.put, List.setIfInBounds_toArray, List.set_cons_zero, List.set_cons_succ])
    refine wpAnyH_take (i := 7) (v := ?_) (take_at rfl) (by kernel_rfl) (by kernel_rfl) (by kernel_rfl) (fun _ _ _ h => h) (Or.inl ⟨by rfl, ?_⟩) (by assumption) ?_
    rotate_left
    · intro w' hSw; (try dsimp only at hSw); go_simp; (try with_reducible rfl)
    (try simp only [Act.put, List.setIfInBounds_toArray, List.set_cons_zero, List.set_cons_succ])
    refine wpAnyH_take (i := 8) (v := ?_) (take_at rfl) (by kernel_rfl) (by kernel_rfl) (by kernel_rfl) (fun _ _ _ h => h) (Or.inl ⟨by rfl, ?_⟩) (by assumption) ?_
    rotate_left
    · intro w' hSw; (try dsimp only at hSw); go_simp; (try with_reducible rfl)
    (try simp only [Act.put, List.setIfInBounds_toArray, List.set_cons_zero, List.set_cons_succ])
    refine wpAnyH_take (i := 9) (v := ?_) (take_at rfl) (by kernel_rfl) (by kernel_rfl) (by kernel_rfl) (fun _ _ _ h => h) (Or.inl ⟨by rfl, ?_⟩) (by assumption) ?_
    rotate_left
    · intro w' hSw; (try dsimp only at hSw); go_simp; (try with_reducible rfl)
    (try simp only [Act.put, List.setIfInBounds_toArray, List.set_cons_zero, List.set_cons_succ])
    refine wpAnyH_take (i := 10) (v := ?_) (take_at rfl) (by kernel_rfl) (by kernel_rfl) (by kernel_rfl) (fun _ _ _ h => h) (Or.inl ⟨by rfl, ?_⟩) (by assumption) ?_
    rotate_left
    · intro w' hSw; (try dsimp only at hSw); go_simp; (try with_reducible rfl)
    (try simp only [Act.put, List.setIfInBounds_toArray, List.set_cons_zero, List.set_cons_succ])
    refine wpAnyH_take (i := 11) (v := ?_) (take_at rfl) (by kernel_rfl) (by kernel_rfl) (by kernel_rfl) (fun _ _ _ h => h) (Or.inl ⟨by rfl, ?_⟩) (by assumption) ?_
    rotate_left
    · intro w' hSw; (try dsimp only at hSw); go_simp; (try with_reducible rfl)
    (try simp only [Act.put, List.setIfInBounds_toArray, List.set_cons_zero, List.set_cons_succ])
    refine wpAnyH_take (i := 12) (v := ?_) (take_at rfl) (by kernel_rfl) (by kernel_rfl) (by kernel_rfl) (fun _ _ _ h => h) (Or.inl ⟨by rfl, ?_⟩) (by assumption) ?_
    rotate_left
    · intro w' hSw; (try dsimp only at hSw); go_simp; (try with_reducible rfl)
    (try simp only [Act.put, List.setIfInBounds_toArray, List.set_cons_zero, List.set_cons_succ])
    refine wpAnyH_take (i := 14) (v := ?_) (take_at rfl) (by kernel_rfl) (by kernel_rfl) (by kernel_rfl) (fun _ _ _ h => h) (Or.inl ⟨by rfl, ?_⟩) (by assumption) ?_
    rotate_left
    · intro w' hSw; (try dsimp only at hSw); go_simp; (try with_reducible rfl)
    (try simp only [Act.put, List.setIfInBounds_toArray, List.set_cons_zero, List.set_cons_succ])
    refine wpAnyH_take (i := 16) (v := ?_) (take_at rfl) (by kernel_rfl) (by kernel_rfl) (by kernel_rfl) (fun _ _ _ h => h) (Or.inl ⟨by rfl, ?_⟩) (by assumption) ?_
    rotate_left
    · intro w' hSw; (try dsimp only at hSw); go_simp; (try with_reducible rfl)
    (try simp only [Act.put, List.setIfInBounds_toArray, List.set_cons_zero, List.set_cons_succ])
    refine wpAnyH_ready (rs := [13]) (by kernel_rfl) (by simp) ?_
    refine AllReadyH.cons (take_at rfl) (fun K hK => ?_) AllReadyH.nil
    go_simp
    refine (union_any ya yb Aa Ab ma ca mb cb _ (RT.out.step B.out) (RA.out.step B.out) (RB.out.step B.out) (by omega) (by omega)).mono ?_
    rintro e3 wn ⟨An, mn, cn, yn, qn, rfl, he, hn, hm, hs, hb⟩
    have HVn := Lib.hid (has_union (ya := ya) (yb := yb) (v := v) he hn)
    have Sn := Lib.hid hs
    have hmn : mn ≤ 100000 := by omega
    replace B := Lib.hid (B.out.step' hb)
    clear he hn hm hs hb
    (try go_wp2_with fail)
    refine hK.out _ _ ?_ (fun hHeld2 => ?_)
    · (try dsimp only); exact KS.out _ B.out
    clear hK K hHeld
    have hHeld := hHeld2
    clear hHeld2
    (try simp only [Act.put, List.setIfInBounds_toArray, List.set_cons_zero, List.set_cons_succ])
    refine wpAnyH_ready (rs := [15]) (by kernel_rfl) (by simp) ?_
    refine AllReadyH.cons (take_at rfl) (fun K hK => ?_) AllReadyH.nil
    go_simp
    have HC := has_any yn An mn cn v cv _ (RT.out.step B.out) Sn.out hmn (RV.out.step B.out)
    rw [HVn.out] at HC
    (try rw [← EX.out] at HC)
    (try rw [← EY.out] at HC)
    (try rw [← EO.out] at HC)
    (try simp only [Bool.and_true, Bool.and_false, Bool.true_and, Bool.false_and, Bool.or_true, Bool.or_false, Bool.true_or, Bool.false_or, Bool.not_true, Bool.not_false] at HC)
    refine HC.mono ?_
    clear HC
    rintro e3 wh ⟨rfl, hb⟩
    replace B := Lib.hid (B.out.step' hb)
    clear hb HVn Sn hmn
    (try go_wp2_with fail)
    refine hK.out _ _ ?_ (fun hHeld2 => ?_)
    · (try dsimp only); exact KS.out _ B.out
    clear hK K hHeld
    have hHeld := hHeld2
    clear hHeld2
    (try simp only [Act.put, List.setIfInBounds_toArray, List.set_cons_zero, List.set_cons_succ])
    refine wpAnyH_take (i := 17) (v := ?_) (take_at rfl) (by kernel_rfl) (by kernel_rfl) (by kernel_rfl) (fun _ _ _ h => h) (Or.inl ⟨by rfl, ?_⟩) (by assumption) ?_
    rotate_left
    · intro w' hSw; (try dsimp only at hSw); go_simp; (try with_reducible rfl)
    (try simp only [Act.put, List.setIfInBounds_toArray, List.set_cons_zero, List.set_cons_succ])
    refine wpAnyH_take (i := 18) (v := undef) (take_at rfl) (by kernel_rfl) (by kernel_rfl) (by kernel_rfl) (fun _ _ _ h => h) (Or.inr ⟨by rfl, rfl⟩) (by assumption) ?_
    (try simp only [Act.put, List.setIfInBounds_toArray, List.set_cons_zero, List.set_cons_succ])
    refine wpAnyH_take (i := 19) (v := ?_) (take_at rfl) (by kernel_rfl) (by kernel_rfl) (by kernel_rfl) (fun _ _ _ h => h) (Or.inl ⟨by rfl, ?_⟩) (by assumption) ?_
    rotate_left
    · intro w' hSw; (try dsimp only at hSw); go_simp; (try with_reducible rfl)
    (try simp only [Act.put, List.setIfInBounds_toArray, List.set_cons_zero, List.set_cons_succ])
    refine wpAnyH_take (i := 20) (v := ?_) (take_at rfl) (by kernel_rfl) (by kernel_rfl) (by kernel_rfl) (fun _ _ _ h => h) (Or.inl ⟨by rfl, ?_⟩) (by assumption) ?_
    rotate_left
    · intro w' hSw; (try dsimp only at hSw); go_simp; (try with_reducible rfl)
    (try simp only [Act.put, List.setIfInBounds_toArray, List.set_cons_zero, List.set_cons_succ])
    refine wpAnyH_take (i := 21) (v := ?_) (take_at rfl) (by kernel_rfl) (by kernel_rfl) (by kernel_rfl) (fun _ _ _ h => h) (Or.inl ⟨by rfl, ?_⟩) (by assumption) ?_
    rotate_left
    · intro w' hSw; (try dsimp only at hSw); go_simp; (try with_reducible rfl)
    (try simp only [Act.put, List.setIfInBounds_toArray, List.set_cons_zero, List.set_cons_succ])
    refine wpAnyH_take (i := 22) (v := ?_) (take_at rfl) (by kernel_rfl) (by kernel_rfl) (by kernel_rfl) (fun _ _ _ h => h) (Or.inl ⟨by rfl, ?_⟩) (by assumption) ?_
    rotate_left
    · intro w' hSw; (try dsimp only at hSw); go_simp; (try with_reducible rfl)
    (try simp only [Act.put, List.setIfInBounds_toArray, List.set_cons_zero, List.set_cons_succ])
    refine wpAnyH_take (i := 23) (v := ?_) (take_at rfl) (by kernel_rfl) (by kernel_rfl) (by kernel_rfl) (fun _ _ _ h => h) (Or.inl ⟨by rfl, ?_⟩) (by assumption) ?_
    rotate_left
    · intro w' hSw; (try dsimp only at hSw); go_simp; (try with_reducible rfl)
    (try simp only [Act.put, List.setIfInBounds_toArray, List.set_cons_zero, List.set_cons_succ])
    refine wpAnyH_take (i := 25) (v := ?_) (take_at rfl) (by kernel_rfl) (by kernel_rfl) (by kernel_rfl) (fun _ _ _ h => h) (Or.inl ⟨by rfl, ?_⟩) (by assumption) ?_
    rotate_left
    · intro w' hSw; (try dsimp only at hSw); go_simp; (try with_reducible rfl)
    (try simp only [Act.put, List.setIfInBounds_toArray, List.set_cons_zero, List.set_cons_succ])
    refine wpAnyH_take (i := 27) (v := ?_) (take_at rfl) (by kernel_rfl) (by kernel_rfl) (by kernel_rfl) (fun _ _ _ h => h) (Or.inl ⟨by rfl, ?_⟩) (by assumption) ?_
    rotate_left
    · intro w' hSw; (try dsimp only at hSw); go_simp; (try with_reducible rfl)
    (try simp only [Act.put, List.setIfInBounds_toArray, List.set_cons_zero, List.set_cons_succ])
    refine wpAnyH_ready (rs := [24]) (by kernel_rfl) (by simp) ?_
    refine AllReadyH.cons (take_at rfl) (fun K hK => ?_) AllReadyH.nil
    go_simp
    refine (rest_any ya Aa ma ca _ (RT.out.step B.out) (RA.out.step B.out) (by omega)).mono ?_
    rintro e3 wn ⟨An, mn, cn, yn, qn, rfl, he, hn, hm, hs, hb⟩
    have HVn := Lib.hid (has_rest (ya := ya) (v := v) he hn)
    have Sn := Lib.hid hs
    have hmn : mn ≤ 100000 := by omega
    replace B := Lib.hid (B.out.step' hb)
    clear he hn hm hs hb
    (try go_wp2_with fail)
    refine hK.out _ _ ?_ (fun hHeld2 => ?_)
    · (try dsimp only); exact KS.out _ B.out
    clear hK K hHeld
    have hHeld := hHeld2
    clear hHeld2
    (try simp only [Act.put, List.setIfInBounds_toArray, List.set_cons_zero, List.set_cons_succ])
    refine wpAnyH_ready (rs := [26]) (by kernel_rfl) (by simp) ?_
    refine AllReadyH.cons (take_at rfl) (fun K hK => ?_) AllReadyH.nil
    go_simp
    have HC := has_any yn An mn cn v cv _ (RT.out.step B.out) Sn.out hmn (RV.out.step B.out)
    rw [HVn.out] at HC
    (try rw [← EX.out] at HC)
    (try rw [← EY.out] at HC)
    (try rw [← EO.out] at HC)
    (try simp only [Bool.and_true, Bool.and_false, Bool.true_and, Bool.false_and, Bool.or_true, Bool.or_false, Bool.true_or, Bool.false_or, Bool.not_true, Bool.not_false] at HC)
    refine HC.mono ?_
    clear HC
    rintro e3 wh ⟨rfl, hb⟩
    replace B := Lib.hid (B.out.step' hb)
    clear hb HVn Sn hmn
    (try go_wp2_with fail)
    refine hK.out _ _ ?_ (fun hHeld2 => ?_)
    · (try dsimp only); exact KS.out _ B.out
    clear hK K hHeld
    have hHeld := hHeld2
    clear hHeld2
    (try simp only [Act.put, List.setIfInBounds_toArray, List.set_cons_zero, List.set_cons_succ])
    refine wpAnyH_take (i := 28) (v := ?_) (take_at rfl) (by kernel_rfl) (by kernel_rfl) (by kernel_rfl) (fun _ _ _ h => h) (Or.inl ⟨by rfl, ?_⟩) (by assumption) ?_
    rotate_left
    · intro w' hSw; (try dsimp only at hSw); go_simp; (try with_reducible rfl)
    (try simp only [Act.put, List.setIfInBounds_toArray, List.set_cons_zero, List.set_cons_succ])
    refine wpAnyH_take (i := 29) (v := ?_) (take_at rfl) (by kernel_rfl) (by kernel_rfl) (by kernel_rfl) (fun _ _ _ h => h) (Or.inl ⟨by rfl, ?_⟩) (by assumption) ?_
    rotate_left
    · intro w' hSw; (try dsimp only at hSw); go_simp; (try with_reducible rfl)
    (try simp only [Act.put, List.setIfInBounds_toArray, List.set_cons_zero, List.set_cons_succ])
    refine wpAnyH_take (i := 30) (v := ?_) (take_at rfl) (by kernel_rfl) (by kernel_rfl) (by kernel_rfl) (fun _ _ _ h => h) (Or.inl ⟨by rfl, ?_⟩) (by assumption) ?_
    rotate_left
    · intro w' hSw; (try dsimp only at hSw); go_simp; (try with_reducible rfl)
    (try simp only [Act.put, List.setIfInBounds_toArray, List.set_cons_zero, List.set_cons_succ])
    refine wpAnyH_take (i := 31) (v := ?_) (take_at rfl) (by kernel_rfl) (by kernel_rfl) (by kernel_rfl) (fun _ _ _ h => h) (Or.inl ⟨by rfl, ?_⟩) (by assumption) ?_
    rotate_left
    · intro w' hSw; (try dsimp only at hSw); go_simp; (try with_reducible rfl)
    (try simp only [Act.put, List.setIfInBounds_toArray, List.set_cons_zero, List.set_cons_succ])
    refine wpAnyH_take (i := 32) (v := ?_) (take_at rfl) (by kernel_rfl) (by kernel_rfl) (by kernel_rfl) (fun _ _ _ h => h) (Or.inl ⟨by rfl, ?_⟩) (by assumption) ?_
    rotate_left
    · intro w' hSw; (try dsimp only at hSw); go_simp; (try with_reducible rfl)
    (try simp only [Act.put, List.setIfInBounds_toArray, List.set_cons_zero, List.set_cons_succ])
    refine wpAnyH_take (i := 33) (v := ?_) (take_at rfl) (by kernel_rfl) (by kernel_rfl) (by kernel_rfl) (fun _ _ _ h => h) (Or.inl ⟨by rfl, ?_⟩) (by assumption) ?_
    rotate_left
    · intro w' hSw; (try dsimp only at hSw); go_simp; (try with_reducible rfl)
    (try simp only [Act.put, List.setIfInBounds_toArray, List.set_cons_zero, List.set_cons_succ])
    refine wpAnyH_done (by kernel_rfl) ?_ _
    refine NoPanic.normal ?_
    clear KS RT RA RB RV hHeld
    replace I := Lib.hid (I.out.step B.out)
    clear B
    go_upto_region 7 with fail
    obtain ⟨x0, x1, x2, x3, x4⟩ := VAt.of_blk I.out.b
    have B := Lib.hid ((Below.refl wh.heap.size wh).drewN 1)
    have RT := Lib.hid (HT.out.step I.out.bel)
    have RA := Lib.hid (Sa.out.step I.out.bel)
    have RB := Lib.hid (Sb.out.step I.out.bel)
    have RV := Lib.hid (Sv.out.step I.out.bel)
    have KS : Hid (∀ w', Below wh.heap.size wh w' → w'.cell? ⟨w.heap.size, 0, none⟩ = some (.int .i64 cv.k) ∧ w'.cell? ⟨w.heap.size, 1, none⟩ = some (.int .i64 cv.n) ∧ w'.cell? ⟨w.heap.size, 2, none⟩ = some (.string cv.t) ∧ w'.cell? ⟨w.heap.size, 3, none⟩ = some (.slice cv.LA cv.ln cv.lc) ∧ w'.cell? ⟨w.heap.size, 4, none⟩ = some (.slice cv.DA cv.dn cv.dc)) := fun w' hb => ⟨(hb.cell (p := ⟨w.heap.size, 0, none⟩) I.out.b.lt).trans x0, (hb.cell (p := ⟨w.heap.size, 1, none⟩) I.out.b.lt).trans x1, (hb.cell (p := ⟨w.heap.size, 2, none⟩) I.out.b.lt).trans x2, (hb.cell (p := ⟨w.heap.size, 3, none⟩) I.out.b.lt).trans x3, (hb.cell (p := ⟨w.heap.size, 4, none⟩) I.out.b.lt).trans x4⟩
    clear x0 x1 x2 x3 x4
    refine wp_region_noPanic ?_
    refine wp_region_held_drew (S := (fun w' => w'.cell? ⟨w.heap.size, 0, none⟩ = some (.int .i64 cv.k) ∧ w'.cell? ⟨w.heap.size, 1, none⟩ = some (.int .i64 cv.n) ∧ w'.cell? ⟨w.heap.size, 2, none⟩ = some (.string cv.t) ∧ w'.cell? ⟨w.heap.size, 3, none⟩ = some (.slice cv.LA cv.ln cv.lc) ∧ w'.cell? ⟨w.heap.size, 4, none⟩ = some (.slice cv.DA cv.dn cv.dc))) (by kernel_rfl) ?_ (fun hHeld => ?_)
    · (try dsimp only); exact KS.out _ B.out
    refine wpAnyH_take (i := 0) (v := ?_) (take_at rfl) (by kernel_rfl) (by kernel_rfl) (by kernel_rfl) (fun _ _ _ h => h) (Or.inl ⟨by rfl, ?_⟩) (by assumption) ?_
    rotate_left
    · intro w' hSw; (try dsimp only at hSw); go_simp; (try with_reducible rfl)
    (try simp only [Act.put, List.setIfInBounds_toArray, List.set_cons_zero, List.set_cons_succ])
    refine wpAnyH_take (i := 2) (v := ?_) (take_at rfl) (by kernel_rfl) (by kernel_rfl) (by kernel_rfl) (fun _ _ _ h => h) (Or.inl ⟨by rfl, ?_⟩) (by assumption) ?_
    rotate_left
    · intro w' hSw; (try dsimp only at hSw); go_simp; (try with_reducible rfl)
    (try simp only [Act.put, List.setIfInBounds_toArray, List.set_cons_zero, List.set_cons_succ])
    refine wpAnyH_take (i := 4) (v := ?_) (take_at rfl) (by kernel_rfl) (by kernel_rfl) (by kernel_rfl) (fun _ _ _ h => h) (Or.inl ⟨by rfl, ?_⟩) (by assumption) ?_
    rotate_left
    · intro w' hSw; (try dsimp only at hSw); go_simp; (try with_reducible rfl)
    (try simp only [Act.put, List.setIfInBounds_toArray, List.set_cons_zero, List.set_cons_succ])
    refine wpAnyH_ready (rs := [1]) (by kernel_rfl) (by simp) ?_
    refine AllReadyH.cons (take_at rfl) (fun K hK => ?_) AllReadyH.nil
    go_simp
    refine (normal_any ya Aa ma ca _ (RT.out.step B.out) (RA.out.step B.out) (by omega)).mono ?_
    rintro e3 wn ⟨An, mn, cn, yn, qn, rfl, he, hn, hm, hs, hb⟩
    have HVn := Lib.hid (has_normal (ya := ya) (v := v) he hn)
    have Sn := Lib.hid hs
    have hmn : mn ≤ 100000 := by omega
    replace B := Lib.hid (B.out.step' hb)
    clear he hn hm hs hb
    (try go_wp2_with fail)
    refine hK.out _ _ ?_ (fun hHeld2 => ?_)
    · (try dsimp only); exact KS.out _ B.out
    clear hK K hHeld
    have hHeld := hHeld2
    clear hHeld2
    (try simp only [Act.put, List.setIfInBounds_toArray, List.set_cons_zero, List.set_cons_succ])
    refine wpAnyH_ready (rs := [3]) (by kernel_rfl) (by simp) ?_
    refine AllReadyH.cons (take_at rfl) (fun K hK => ?_) AllReadyH.nil
    go_simp
    have HC := has_any yn An mn cn v cv _ (RT.out.step B.out) Sn.out hmn (RV.out.step B.out)
    rw [HVn.out] at HC
    (try rw [← EX.out] at HC)
    (try rw [← EY.out] at HC)
    (try rw [← EO.out] at HC)
    (try simp only [Bool.and_true, Bool.and_false, Bool.true_and, Bool.false_and, Bool.or_true, Bool.or_false, Bool.true_or, Bool.false_or, Bool.not_true, Bool.not_false] at HC)
    refine HC.mono ?_
    clear HC
    rintro e3 wh ⟨rfl, hb⟩
    replace B := Lib.hid (B.out.step' hb)
    clear hb HVn Sn hmn
    (try go_wp2_with fail)
    refine hK.out _ _ ?_ (fun hHeld2 => ?_)
    · (try dsimp only); exact KS.out _ B.out
    clear hK K hHeld
    have hHeld := hHeld2
    clear hHeld2
    (try simp only [Act.put, List.setIfInBounds_toArray, List.set_cons_zero, List.set_cons_succ])
    refine wpAnyH_take (i := 5) (v := ?_) (take_at rfl) (by kernel_rfl) (by kernel_rfl) (by kernel_rfl) (fun _ _ _ h => h) (Or.inl ⟨by rfl, ?_⟩) (by assumption) ?_
    rotate_left
    · intro w' hSw; (try dsimp only at hSw); go_simp; (try with_reducible rfl)
    (try simp only [Act.put, List.setIfInBounds_toArray, List.set_cons_zero, List.set_cons_succ])
    refine wpAnyH_take (i := 6) (v := ?_) (take_at rfl) (by kernel_rfl) (by kernel_rfl) (by kernel_rfl) (fun _ _ _ h => h) (Or.inl ⟨by rfl, ?_⟩) (by assumption) ?_
    rotate_left
    · intro w' hSw; (try dsimp only at hSw); go_simp; (try with_reducible rfl)
    (try simp only [Act.put, List.setIfInBounds_toArray, List.set_cons_zero, List.set_cons_succ])
    refine wpAnyH_take (i := 8) (v := ?_) (take_at rfl) (by kernel_rfl) (by kernel_rfl) (by kernel_rfl) (fun _ _ _ h => h) (Or.inl ⟨by rfl, ?_⟩) (by assumption) ?_
    rotate_left
    · intro w' hSw; (try dsimp only at hSw); go_simp; (try with_reducible rfl)
    (try simp only [Act.put, List.setIfInBounds_toArray, List.set_cons_zero, List.set_cons_succ])
    refine wpAnyH_take (i := 10) (v := ?_) (take_at rfl) (by kernel_rfl) (by kernel_rfl) (by kernel_rfl) (fun _ _ _ h => h) (Or.inl ⟨by rfl, ?_⟩) (by assumption) ?_
    rotate_left
    · intro w' hSw; (try dsimp only at hSw); go_simp; (try with_reducible rfl)
    (try simp only [Act.put, List.setIfInBounds_toArray, List.set_cons_zero, List.set_cons_succ])
    refine wpAnyH_ready (rs := [7]) (by kernel_rfl) (by simp) ?_
    refine AllReadyH.cons (take_at rfl) (fun K hK => ?_) AllReadyH.nil
    go_simp
    refine (all_any _).mono ?_
    rintro e3 wn ⟨An, mn, cn, yn, qn, rfl, he, hn, hm, hs, hb⟩
    have HVn := Lib.hid (has_all (v := v) he hn)
    have Sn := Lib.hid hs
    have hmn : mn ≤ 100000 := by omega
    replace B := Lib.hid (B.out.step' hb)
    clear he hn hm hs hb
    (try go_wp2_with fail)
    refine hK.out _ _ ?_ (fun hHeld2 => ?_)
    · (try dsimp only); exact KS.out _ B.out
    clear hK K hHeld
    have hHeld := hHeld2
    clear hHeld2
    (try simp only [Act.put, List.setIfInBounds_toArray, List.set_cons_zero, List.set_cons_succ])
    refine wpAnyH_ready (rs := [9]) (by kernel_rfl) (by simp) ?_
    refine AllReadyH.cons (take_at rfl) (fun K hK => ?_) AllReadyH.nil
    go_simp
    have HC := has_any yn An mn cn v cv _ (RT.out.step B.out) Sn.out hmn (RV.out.step B.out)
    rw [HVn.out] at HC
    (try rw [← EX.out] at HC)
    (try rw [← EY.out] at HC)
    (try rw [← EO.out] at HC)
    (try simp only [Bool.and_true, Bool.and_false, Bool.true_and, Bool.false_and, Bool.or_true, Bool.or_false, Bool.true_or, Bool.false_or, Bool.not_true, Bool.not_false] at HC)
    refine HC.mono ?_
    clear HC
    rintro e3 wh ⟨rfl, hb⟩
    replace B := Lib.hid (B.out.step' hb)
    clear hb HVn Sn hmn
    (try go_wp2_with fail)
    refine hK.out _ _ ?_ (fun hHeld2 => ?_)
    · (try dsimp only); exact KS.out _ B.out
    clear hK K hHeld
    have hHeld := hHeld2
    clear hHeld2
    (try simp only [Act.put, List.setIfInBounds_toArray, List.set_cons_zero, List.set_cons_succ])
    refine wpAnyH_take (i := 11) (v := ?_) (take_at rfl) (by kernel_rfl) (by kernel_rfl) (by kernel_rfl) (fun _ _ _ h => h) (Or.inl ⟨by rfl, ?_⟩) (by assumption) ?_
    rotate_left
    · intro w' hSw; (try dsimp only at hSw); go_simp; (try with_reducible rfl)
    (try simp only [Act.put, List.setIfInBounds_toArray, List.set_cons_zero, List.set_cons_succ])
    refine wpAnyH_take (i := 12) (v := ?_) (take_at rfl) (by kernel_rfl) (by kernel_rfl) (by kernel_rfl) (fun _ _ _ h => h) (Or.inl ⟨by rfl, ?_⟩) (by assumption) ?_
    rotate_left
    · intro w' hSw; (try dsimp only at hSw); go_simp; (try with_reducible rfl)
    (try simp only [Act.put, List.setIfInBounds_toArray, List.set_cons_zero, List.set_cons_succ])
    refine wpAnyH_take (i := 13) (v := ?_) (take_at rfl) (by kernel_rfl) (by kernel_rfl) (by kernel_rfl) (fun _ _ _ h => h) (Or.inl ⟨by rfl, ?_⟩) (by assumption) ?_
    rotate_left
    · intro w' hSw; (try dsimp only at hSw); go_simp; (try with_reducible rfl)
    (try simp only [Act.put, List.setIfInBounds_toArray, List.set_cons_zero, List.set_cons_succ])
    refine wpAnyH_take (i := 14) (v := ?_) (take_at rfl) (by kernel_rfl) (by kernel_rfl) (by kernel_rfl) (fun _ _ _ h => h) (Or.inl ⟨by rfl, ?_⟩) (by assumption) ?_
    rotate_left
    · intro w' hSw; (try dsimp only at hSw); go_simp; (try with_reducible rfl)
    (try simp only [Act.put, List.setIfInBounds_toArray, List.set_cons_zero, List.set_cons_succ])
    refine wpAnyH_take (i := 17) (v := ?_) (take_at rfl) (by kernel_rfl) (by kernel_rfl) (by kernel_rfl) (fun _ _ _ h => h) (Or.inl ⟨by rfl, ?_⟩) (by assumption) ?_
    rotate_left
    · intro w' hSw; (try dsimp only at hSw); go_simp; (try with_reducible rfl)
    (try simp only [Act.put, List.setIfInBounds_toArray, List.set_cons_zero, List.set_cons_succ])
    refine wpAnyH_take (i := 19) (v := ?_) (take_at rfl) (by kernel_rfl) (by kernel_rfl) (by kernel_rfl) (fun _ _ _ h => h) (Or.inl ⟨by rfl, ?_⟩) (by assumption) ?_
    rotate_left
    · intro w' hSw; (try dsimp only at hSw); go_simp; (try with_reducible rfl)
    (try simp only [Act.put, List.setIfInBounds_toArray, List.set_cons_zero, List.set_cons_succ])
    refine wpAnyH_ready (rs := [15]) (by kernel_rfl) (by simp) ?_
    refine AllReadyH.cons (take_at rfl) (fun K hK => ?_) AllReadyH.nil
    go_simp
    refine hK.out _ _ ?_ (fun hHeld2 => ?_)
    · (try dsimp only); exact KS.out _ (B.out.alloc B.out.size _)
    have SP : Hid (SL (fun _ => True) _ (some ⟨_, 0, none⟩) 1 1 [(cv, v)]) := Lib.hid (sl_list (Blk.new _ 30 (flat recV [(cv, v)]).toArray) rfl (by decide) (by intro p hp; simp only [List.mem_cons, List.not_mem_nil, or_false] at hp; subst hp; exact RV.out.step (B.out.alloc B.out.size _)))
    replace B := Lib.hid (B.out.alloc B.out.size (Obj.cells (flat recV [(cv, v)]).toArray 30))
    clear hK K hHeld
    have hHeld := hHeld2
    clear hHeld2
    (try simp only [Act.put, List.setIfInBounds_toArray, List.set_cons_zero, List.set_cons_succ])
    refine wpAnyH_ready (rs := [16]) (by kernel_rfl) (by simp) ?_
    refine AllReadyH.cons (take_at rfl) (fun K hK => ?_) AllReadyH.nil
    go_simp
    refine (points_any [(cv, v)] _ 1 1 _ (RT.out.step B.out) SP.out (by omega)).mono ?_
    rintro e3 wn ⟨An, mn, cn, yn, qn, rfl, he, hn, hm, hs, hb⟩
    have HVn := Lib.hid (has_points (cv := cv) (v := v) he hn)
    have Sn := Lib.hid hs
    have hmn : mn ≤ 100000 := by omega
    replace B := Lib.hid (B.out.step' hb)
    clear he hn hm hs hb
    (try go_wp2_with fail)
    refine hK.out _ _ ?_ (fun hHeld2 => ?_)
    · (try dsimp only); exact KS.out _ B.out
    clear hK K hHeld
    have hHeld := hHeld2
    clear hHeld2
    (try simp only [Act.put, List.setIfInBounds_toArray, List.set_cons_zero, List.set_cons_succ])
    refine wpAnyH_ready (rs := [18]) (by kernel_rfl) (by simp) ?_
    refine AllReadyH.cons (take_at rfl) (fun K hK => ?_) AllReadyH.nil
    go_simp
    have HC := has_any yn An mn cn v cv _ (RT.out.step B.out) Sn.out hmn (RV.out.step B.out)
    rw [HVn.out] at HC
    (try rw [← EX.out] at HC)
    (try rw [← EY.out] at HC)
    (try rw [← EO.out] at HC)
    (try simp only [Bool.and_true, Bool.and_false, Bool.true_and, Bool.false_and, Bool.or_true, Bool.or_false, Bool.true_or, Bool.false_or, Bool.not_true, Bool.not_false] at HC)
    refine HC.mono ?_
    clear HC
    rintro e3 wh ⟨rfl, hb⟩
    replace B := Lib.hid (B.out.step' hb)
    clear hb HVn Sn hmn
    (try go_wp2_with fail)
    refine hK.out _ _ ?_ (fun hHeld2 => ?_)
    · (try dsimp only); exact KS.out _ B.out
    clear hK K hHeld
    have hHeld := hHeld2
    clear hHeld2
    (try simp only [Act.put, List.setIfInBounds_toArray, List.set_cons_zero, List.set_cons_succ])
    refine wpAnyH_take (i := 20) (v := ?_) (take_at rfl) (by kernel_rfl) (by kernel_rfl) (by kernel_rfl) (fun _ _ _ h => h) (Or.inl ⟨by rfl, ?_⟩) (by assumption) ?_
    rotate_left
    · intro w' hSw; (try dsimp only at hSw); go_simp; (try with_reducible rfl)
    (try simp only [Act.put, List.setIfInBounds_toArray, List.set_cons_zero, List.set_cons_succ])
    refine wpAnyH_take (i := 21) (v := ?_) (take_at rfl) (by kernel_rfl) (by kernel_rfl) (by kernel_rfl) (fun _ _ _ h => h) (Or.inl ⟨by rfl, ?_⟩) (by assumption) ?_
    rotate_left
    · intro w' hSw; (try dsimp only at hSw); go_simp; (try with_reducible rfl)
    (try simp only [Act.put, List.setIfInBounds_toArray, List.set_cons_zero, List.set_cons_succ])
    refine wpAnyH_take (i := 22) (v := ?_) (take_at rfl) (by kernel_rfl) (by kernel_rfl) (by kernel_rfl) (fun _ _ _ h => h) (Or.inl ⟨by rfl, ?_⟩) (by assumption) ?_
    rotate_left
    · intro w' hSw; (try dsimp only at hSw); go_simp; (try with_reducible rfl)
    (try simp only [Act.put, List.setIfInBounds_toArray, List.set_cons_zero, List.set_cons_succ])
    refine wpAnyH_take (i := 23) (v := ?_) (take_at rfl) (by kernel_rfl) (by kernel_rfl) (by kernel_rfl) (fun _ _ _ h => h) (Or.inl ⟨by rfl, ?_⟩) (by assumption) ?_
    rotate_left
    · intro w' hSw; (try dsimp only at hSw); go_simp; (try with_reducible rfl)
    (try simp only [Act.put, List.setIfInBounds_toArray, List.set_cons_zero, List.set_cons_succ])
    refine wpAnyH_take (i := 24) (v := ?_) (take_at rfl) (by kernel_rfl) (by kernel_rfl) (by kernel_rfl) (fun _ _ _ h => h) (Or.inl ⟨by rfl, ?_⟩) (by assumption) ?_
    rotate_left
    · intro w' hSw; (try dsimp only at hSw); go_simp; (try with_reducible rfl)
    (try simp only [Act.put, List.setIfInBounds_toArray, List.set_cons_zero, List.set_cons_succ])
    refine wpAnyH_take (i := 25) (v := undef) (take_at rfl) (by kernel_rfl) (by kernel_rfl) (by kernel_rfl) (fun _ _ _ h => h) (Or.inr ⟨by rfl, rfl⟩) (by assumption) ?_
    (try simp only [Act.put, List.setIfInBounds_toArray, List.set_cons_zero, List.set_cons_succ])
    refine wpAnyH_take (i := 26) (v := undef) (take_at rfl) (by kernel_rfl) (by kernel_rfl) (by kernel_rfl) (fun _ _ _ h => h) (Or.inr ⟨by rfl, rfl⟩) (by assumption) ?_
    (try simp only [Act.put, List.setIfInBounds_toArray, List.set_cons_zero, List.set_cons_succ])
    refine wpAnyH_take (i := 27) (v := ?_) (take_at rfl) (by kernel_rfl) (by kernel_rfl) (by kernel_rfl) (fun _ _ _ h => h) (Or.inl ⟨by rfl, ?_⟩) (by assumption) ?_
    rotate_left
    · intro w' hSw; (try dsimp only at hSw); go_simp; (try with_reducible rfl)
    (try simp only [Act.put, List.setIfInBounds_toArray, List.set_cons_zero, List.set_cons_succ])
    refine wpAnyH_take (i := 28) (v := ?_) (take_at rfl) (by kernel_rfl) (by kernel_rfl) (by kernel_rfl) (fun _ _ _ h => h) (Or.inl ⟨by rfl, ?_⟩) (by assumption) ?_
    rotate_left
    · intro w' hSw; (try dsimp only at hSw); go_simp; (try with_reducible rfl)
    (try simp only [Act.put, List.setIfInBounds_toArray, List.set_cons_zero, List.set_cons_succ])
    refine wpAnyH_take (i := 29) (v := ?_) (take_at rfl) (by kernel_rfl) (by kernel_rfl) (by kernel_rfl) (fun _ _ _ h => h) (Or.inl ⟨by rfl, ?_⟩) (by assumption) ?_
    rotate_left
    · intro w' hSw; (try dsimp only at hSw); go_simp; (try with_reducible rfl)
    (try simp only [Act.put, List.setIfInBounds_toArray, List.set_cons_zero, List.set_cons_succ])
    refine wpAnyH_ready (rs := [30]) (by kernel_rfl) (by simp) ?_
    refine AllReadyH.cons (take_at rfl) (fun K hK => ?_) AllReadyH.nil
    go_simp
    refine (awake24_any _ (RT.out.step B.out)).mono ?_
    rintro e3 wk ⟨rfl, hb⟩
    replace B := Lib.hid (B.out.step' hb)
    clear hb
    (try go_wp2_with fail)
    refine hK.out _ _ ?_ (fun hHeld2 => ?_)
    · (try dsimp only); exact KS.out _ B.out
    clear hK K hHeld
    have hHeld := hHeld2
    clear hHeld2
    (try simp only [Act.put, List.setIfInBounds_toArray, List.set_cons_zero, List.set_cons_succ])
    refine wpAnyH_take (i := 31) (v := ?_) (take_at rfl) (by kernel_rfl) (by kernel_rfl) (by kernel_rfl) (fun _ _ _ h => h) (Or.inl ⟨by rfl, ?_⟩) (by assumption) ?_
    rotate_left
    · intro w' hSw; (try dsimp only at hSw); go_simp; (try with_reducible rfl)
    (try simp only [Act.put, List.setIfInBounds_toArray, List.set_cons_zero, List.set_cons_succ])
    refine wpAnyH_take (i := 32) (v := ?_) (take_at rfl) (by kernel_rfl) (by kernel_rfl) (by kernel_rfl) (fun _ _ _ h => h) (Or.inl ⟨by rfl, ?_⟩) (by assumption) ?_
    rotate_left
    · intro w' hSw; (try dsimp only at hSw); go_simp; (try with_reducible rfl)
    (try simp only [Act.put, List.setIfInBounds_toArray, List.set_cons_zero, List.set_cons_succ])
    refine wpAnyH_done (by kernel_rfl) ?_ _
    refine NoPanic.normal ?_
    clear KS RT RA RB RV hHeld
    replace I := Lib.hid (I.out.step B.out)
    clear B
    go_wp2_with fail
    go_ret
    exact ⟨rfl, I.out.bel⟩
  · obtain ⟨x0, x1, x2, x3, x4⟩ := VAt.of_blk I.out.b
    have B := Lib.hid ((Below.refl w5.heap.size w5).drewN 1)
    have RT := Lib.hid (HT.out.step I.out.bel)
    have RA := Lib.hid (Sa.out.step I.out.bel)
    have RB := Lib.hid (Sb.out.step I.out.bel)
    have RV := Lib.hid (Sv.out.step I.out.bel)
    have KS : Hid (∀ w', Below w5.heap.size w5 w' → w'.cell? ⟨w.heap.size, 0, none⟩ = some (.int .i64 cv.k) ∧ w'.cell? ⟨w.heap.size, 1, none⟩ = some (.int .i64 cv.n) ∧ w'.cell? ⟨w.heap.size, 2, none⟩ = some (.string cv.t) ∧ w'.cell? ⟨w.heap.size, 3, none⟩ = some (.slice cv.LA cv.ln cv.lc) ∧ w'.cell? ⟨w.heap.size, 4, none⟩ = some (.slice cv.DA cv.dn cv.dc)) := fun w' hb => ⟨(hb.cell (p := ⟨w.heap.size, 0, none⟩) I.out.b.lt).trans x0, (hb.cell (p := ⟨w.heap.size, 1, none⟩) I.out.b.lt).trans x1, (hb.cell (p := ⟨w.heap.size, 2, none⟩) I.out.b.lt).trans x2, (hb.cell (p := ⟨w.heap.size, 3, none⟩) I.out.b.lt).trans x3, (hb.cell (p := ⟨w.heap.size, 4, none⟩) I.out.b.lt).trans x4⟩
    clear x0 x1 x2 x3 x4
    refine wp_region_noPanic ?_
    refine wp_region_held_drew (S := (fun w' => w'.cell? ⟨w.heap.size, 0, none⟩ = some (.int .i64 cv.k) ∧ w'.cell? ⟨w.heap.size, 1, none⟩ = some (.int .i64 cv.n) ∧ w'.cell? ⟨w.heap.size, 2, none⟩ = some (.string cv.t) ∧ w'.cell? ⟨w.heap.size, 3, none⟩ = some (.slice cv.LA cv.ln cv.lc) ∧ w'.cell? ⟨w.heap.size, 4, none⟩ = some (.slice cv.DA cv.dn cv.dc))) (by kernel_rfl) ?_ (fun hHeld => ?_)
    · (try dsimp only); exact KS.out _ B.out
    refine wpAnyH_take (i := 0) (v := ?_) (take_at rfl) (by kernel_rfl) (by kernel_rfl) (by kernel_rfl) (fun _ _ _ h => h) (Or.inl ⟨by rfl, ?_⟩) (by assumption) ?_
    rotate_left
    · intro w' hSw; (try dsimp only at hSw); go_simp; (try with_reducible rfl)
    (try simp only [Act.put, List.setIfInBounds_toArray, List.set_cons_zero, List.set_cons_succ])
    refine wpAnyH_take (i := 1) (v := ?_) (take_at rfl) (by kernel_rfl) (by kernel_rfl) (by kernel_rfl) (fun _ _ _ h => h) (Or.inl ⟨by rfl, ?_⟩) (by assumption) ?_
    rotate_left
    · intro w' hSw; (try dsimp only at hSw); go_simp; (try with_reducible rfl)
    (try simp only [Act.put, List.setIfInBounds_toArray, List.set_cons_zero, List.set_cons_succ])
    refine wpAnyH_take (i := 3) (v := ?_) (take_at rfl) (by kernel_rfl) (by kernel_rfl) (by kernel_rfl) (fun _ _ _ h => h) (Or.inl ⟨by rfl, ?_⟩) (by assumption) ?_
    rotate_left
    · intro w' hSw; (try dsimp only at hSw); go_simp; (try with_reducible rfl)
    (try simp only [Act.put, List.setIfInBounds_toArray, List.set_cons_zero, List.set_cons_succ])
    refine wpAnyH_take (i := 5) (v := ?_) (take_at rfl) (by kernel_rfl) (by kernel_rfl) (by kernel_rfl) (fun _ _ _ h => h) (Or.inl ⟨by rfl, ?_⟩) (by assumption) ?_
    rotate_left
    · intro w' hSw; (try dsimp only at hSw); go_simp; (try with_reducible rfl)
    (try simp only [Act.put, List.setIfInBounds_toArray, List.set_cons_zero, List.set_cons_succ])
    refine wpAnyH_ready (rs := [2]) (by kernel_rfl) (by simp) ?_
    refine AllReadyH.cons (take_at rfl) (fun K hK => ?_) AllReadyH.nil
    go_simp
    refine (meet_any ya yb Aa Ab ma ca mb cb _ (RT.out.step B.out) (RA.out.step B.out) (RB.out.step B.out) (by omega) (by omega)).mono ?_
    rintro e3 wn ⟨An, mn, cn, yn, qn, rfl, he, hn, hm, hs, hb⟩
    have HVn := Lib.hid (has_meet (ya := ya) (yb := yb) (v := v) he hn)
    have Sn := Lib.hid hs
    have hmn : mn ≤ 100000 := by omega
    replace B := Lib.hid (B.out.step' hb)
    clear he hn hm hs hb
    (try go_wp2_with fail)
    refine hK.out _ _ ?_ (fun hHeld2 => ?_)
    · (try dsimp only); exact KS.out _ B.out
    clear hK K hHeld
    have hHeld := hHeld2
    clear hHeld2
    (try simp only [Act.put, List.setIfInBounds_toArray, List.set_cons_zero, List.set_cons_succ])
    refine wpAnyH_ready (rs := [4]) (by kernel_rfl) (by simp) ?_
    refine AllReadyH.cons (take_at rfl) (fun K hK => ?_) AllReadyH.nil
    go_simp
    have HC := has_any yn An mn cn v cv _ (RT.out.step B.out) Sn.out hmn (RV.out.step B.out)
    rw [HVn.out] at HC
    (try rw [← EX.out] at HC)
    (try rw [← EY.out] at HC)
    (try rw [← EO.out] at HC)
    (try simp only [Bool.and_true, Bool.and_false, Bool.true_and, Bool.false_and, Bool.or_true, Bool.or_false, Bool.true_or, Bool.false_or, Bool.not_true, Bool.not_false] at HC)
    refine HC.mono ?_
    clear HC
    rintro e3 wh ⟨rfl, hb⟩
    replace B := Lib.hid (B.out.step' hb)
    clear hb HVn Sn hmn
    (try go_wp2_with fail)
    refine hK.out _ _ ?_ (fun hHeld2 => ?_)
    · (try dsimp only); exact KS.out _ B.out
    clear hK K hHeld
    have hHeld := hHeld2
    clear hHeld2
    (try simp only [Act.put, List.setIfInBounds_toArray, List.set_cons_zero, List.set_cons_succ])
    refine wpAnyH_take (i := 6) (v := ?_) (take_at rfl) (by kernel_rfl) (by kernel_rfl) (by kernel_rfl) (fun _ _ _ h => h) (Or.inl ⟨by rfl, ?_⟩) (by assumption) ?_
    rotate_left
    · intro w' hSw; (try dsimp only at hSw); go_simp; (try with_reducible rfl)
    (try simp only [Act.put, List.setIfInBounds_toArray, List.set_cons_zero, List.set_cons_succ])
    refine wpAnyH_take (i := 7) (v := ?_) (take_at rfl) (by kernel_rfl) (by kernel_rfl) (by kernel_rfl) (fun _ _ _ h => h) (Or.inl ⟨by rfl, ?_⟩) (by assumption) ?_
    rotate_left
    · intro w' hSw; (try dsimp only at hSw); go_simp; (try with_reducible rfl)
    (try simp only [Act.put, List.setIfInBounds_toArray, List.set_cons_zero, List.set_cons_succ])
    refine wpAnyH_take (i := 8) (v := ?_) (take_at rfl) (by kernel_rfl) (by kernel_rfl) (by kernel_rfl) (fun _ _ _ h => h) (Or.inl ⟨by rfl, ?_⟩) (by assumption) ?_
    rotate_left
    · intro w' hSw; (try dsimp only at hSw); go_simp; (try with_reducible rfl)
    (try simp only [Act.put, List.setIfInBounds_toArray, List.set_cons_zero, List.set_cons_succ])
    refine wpAnyH_take (i := 9) (v := ?_) (take_at rfl) (by kernel_rfl) (by kernel_rfl) (by kernel_rfl) (fun _ _ _ h => h) (Or.inl ⟨by rfl, ?_⟩) (by assumption) ?_
    rotate_left
    · intro w' hSw; (try dsimp only at hSw); go_simp; (try with_reducible rfl)
    (try simp only [Act.put, List.setIfInBounds_toArray, List.set_cons_zero, List.set_cons_succ])
    refine wpAnyH_take (i := 10) (v := ?_) (take_at rfl) (by kernel_rfl) (by kernel_rfl) (by kernel_rfl) (fun _ _ _ h => h) (Or.inl ⟨by rfl, ?_⟩) (by assumption) ?_
    rotate_left
    · intro w' hSw; (try dsimp only at hSw); go_simp; (try with_reducible rfl)
    (try simp only [Act.put, List.setIfInBounds_toArray, List.set_cons_zero, List.set_cons_succ])
    refine wpAnyH_take (i := 11) (v := ?_) (take_at rfl) (by kernel_rfl) (by kernel_rfl) (by kernel_rfl) (fun _ _ _ h => h) (Or.inl ⟨by rfl, ?_⟩) (by assumption) ?_
    rotate_left
    · intro w' hSw; (try dsimp only at hSw); go_simp; (try with_reducible rfl)
    (try simp only [Act.put, List.setIfInBounds_toArray, List.set_cons_zero, List.set_cons_succ])
    refine wpAnyH_take (i := 12) (v := ?_) (take_at rfl) (by kernel_rfl) (by kernel_rfl) (by kernel_rfl) (fun _ _ _ h => h) (Or.inl ⟨by rfl, ?_⟩) (by assumption) ?_
    rotate_left
    · intro w' hSw; (try dsimp only at hSw); go_simp; (try with_reducible rfl)
    (try simp only [Act.put, List.setIfInBounds_toArray, List.set_cons_zero, List.set_cons_succ])
    refine wpAnyH_take (i := 14) (v := ?_) (take_at rfl) (by kernel_rfl) (by kernel_rfl) (by kernel_rfl) (fun _ _ _ h => h) (Or.inl ⟨by rfl, ?_⟩) (by assumption) ?_
    rotate_left
    · intro w' hSw; (try dsimp only at hSw); go_simp; (try with_reducible rfl)
    (try simp only [Act.put, List.setIfInBounds_toArray, List.set_cons_zero, List.set_cons_succ])
    refine wpAnyH_take (i := 16) (v := ?_) (take_at rfl) (by kernel_rfl) (by kernel_rfl) (by kernel_rfl) (fun _ _ _ h => h) (Or.inl ⟨by rfl, ?_⟩) (by assumption) ?_
    rotate_left
    · intro w' hSw; (try dsimp only at hSw); go_simp; (try with_reducible rfl)
    (try simp only [Act.put, List.setIfInBounds_toArray, List.set_cons_zero, List.set_cons_succ])
    refine wpAnyH_ready (rs := [13]) (by kernel_rfl) (by simp) ?_
    refine AllReadyH.cons (take_at rfl) (fun K hK => ?_) AllReadyH.nil
    go_simp
    refine (union_any ya yb Aa Ab ma ca mb cb _ (RT.out.step B.out) (RA.out.step B.out) (RB.out.step B.out) (by omega) (by omega)).mono ?_
    rintro e3 wn ⟨An, mn, cn, yn, qn, rfl, he, hn, hm, hs, hb⟩
    have HVn := Lib.hid (has_union (ya := ya) (yb := yb) (v := v) he hn)
    have Sn := Lib.hid hs
    have hmn : mn ≤ 100000 := by omega
    replace B := Lib.hid (B.out.step' hb)
    clear he hn hm hs hb
    (try go_wp2_with fail)
    refine hK.out _ _ ?_ (fun hHeld2 => ?_)
    · (try dsimp only); exact KS.out _ B.out
    clear hK K hHeld
    have hHeld := hHeld2
    clear hHeld2
    (try simp only [Act.put, List.setIfInBounds_toArray, List.set_cons_zero, List.set_cons_succ])
    refine wpAnyH_ready (rs := [15]) (by kernel_rfl) (by simp) ?_
    refine AllReadyH.cons (take_at rfl) (fun K hK => ?_) AllReadyH.nil
    go_simp
    have HC := has_any yn An mn cn v cv _ (RT.out.step B.out) Sn.out hmn (RV.out.step B.out)
    rw [HVn.out] at HC
    (try rw [← EX.out] at HC)
    (try rw [← EY.out] at HC)
    (try rw [← EO.out] at HC)
    (try simp only [Bool.and_true, Bool.and_false, Bool.true_and, Bool.false_and, Bool.or_true, Bool.or_false, Bool.true_or, Bool.false_or, Bool.not_true, Bool.not_false] at HC)
    refine HC.mono ?_
    clear HC
    rintro e3 wh ⟨rfl, hb⟩
    replace B := Lib.hid (B.out.step' hb)
    clear hb HVn Sn hmn
    (try go_wp2_with fail)
    refine hK.out _ _ ?_ (fun hHeld2 => ?_)
    · (try dsimp only); exact KS.out _ B.out
    clear hK K hHeld
    have hHeld := hHeld2
    clear hHeld2
    (try simp only [Act.put, List.setIfInBounds_toArray, List.set_cons_zero, List.set_cons_succ])
    refine wpAnyH_take (i := 17) (v := ?_) (take_at rfl) (by kernel_rfl) (by kernel_rfl) (by kernel_rfl) (fun _ _ _ h => h) (Or.inl ⟨by rfl, ?_⟩) (by assumption) ?_
    rotate_left
    · intro w' hSw; (try dsimp only at hSw); go_simp; (try with_reducible rfl)
    (try simp only [Act.put, List.setIfInBounds_toArray, List.set_cons_zero, List.set_cons_succ])
    refine wpAnyH_take (i := 18) (v := undef) (take_at rfl) (by kernel_rfl) (by kernel_rfl) (by kernel_rfl) (fun _ _ _ h => h) (Or.inr ⟨by rfl, rfl⟩) (by assumption) ?_
    (try simp only [Act.put, List.setIfInBounds_toArray, List.set_cons_zero, List.set_cons_succ])
    refine wpAnyH_take (i := 19) (v := ?_) (take_at rfl) (by kernel_rfl) (by kernel_rfl) (by kernel_rfl) (fun _ _ _ h => h) (Or.inl ⟨by rfl, ?_⟩) (by assumption) ?_
    rotate_left
    · intro w' hSw; (try dsimp only at hSw); go_simp; (try with_reducible rfl)
    (try simp only [Act.put, List.setIfInBounds_toArray, List.set_cons_zero, List.set_cons_succ])
    refine wpAnyH_take (i := 20) (v := ?_) (take_at rfl) (by kernel_rfl) (by kernel_rfl) (by kernel_rfl) (fun _ _ _ h => h) (Or.inl ⟨by rfl, ?_⟩) (by assumption) ?_
    rotate_left
    · intro w' hSw; (try dsimp only at hSw); go_simp; (try with_reducible rfl)
    (try simp only [Act.put, List.setIfInBounds_toArray, List.set_cons_zero, List.set_cons_succ])
    refine wpAnyH_take (i := 21) (v := ?_) (take_at rfl) (by kernel_rfl) (by kernel_rfl) (by kernel_rfl) (fun _ _ _ h => h) (Or.inl ⟨by rfl, ?_⟩) (by assumption) ?_
    rotate_left
    · intro w' hSw; (try dsimp only at hSw); go_simp; (try with_reducible rfl)
    (try simp only [Act.put, List.setIfInBounds_toArray, List.set_cons_zero, List.set_cons_succ])
    refine wpAnyH_take (i := 22) (v := ?_) (take_at rfl) (by kernel_rfl) (by kernel_rfl) (by kernel_rfl) (fun _ _ _ h => h) (Or.inl ⟨by rfl, ?_⟩) (by assumption) ?_
    rotate_left
    · intro w' hSw; (try dsimp only at hSw); go_simp; (try with_reducible rfl)
    (try simp only [Act.put, List.setIfInBounds_toArray, List.set_cons_zero, List.set_cons_succ])
    refine wpAnyH_take (i := 23) (v := ?_) (take_at rfl) (by kernel_rfl) (by kernel_rfl) (by kernel_rfl) (fun _ _ _ h => h) (Or.inl ⟨by rfl, ?_⟩) (by assumption) ?_
    rotate_left
    · intro w' hSw; (try dsimp only at hSw); go_simp; (try with_reducible rfl)
    (try simp only [Act.put, List.setIfInBounds_toArray, List.set_cons_zero, List.set_cons_succ])
    refine wpAnyH_take (i := 25) (v := ?_) (take_at rfl) (by kernel_rfl) (by kernel_rfl) (by kernel_rfl) (fun _ _ _ h => h) (Or.inl ⟨by rfl, ?_⟩) (by assumption) ?_
    rotate_left
    · intro w' hSw; (try dsimp only at hSw); go_simp; (try with_reducible rfl)
    (try simp only [Act.put, List.setIfInBounds_toArray, List.set_cons_zero, List.set_cons_succ])
    refine wpAnyH_take (i := 27) (v := ?_) (take_at rfl) (by kernel_rfl) (by kernel_rfl) (by kernel_rfl) (fun _ _ _ h => h) (Or.inl ⟨by rfl, ?_⟩) (by assumption) ?_
    rotate_left
    · intro w' hSw; (try dsimp only at hSw); go_simp; (try with_reducible rfl)
    (try simp only [Act.put, List.setIfInBounds_toArray, List.set_cons_zero, List.set_cons_succ])
    refine wpAnyH_ready (rs := [24]) (by kernel_rfl) (by simp) ?_
    refine AllReadyH.cons (take_at rfl) (fun K hK => ?_) AllReadyH.nil
    go_simp
    refine (rest_any ya Aa ma ca _ (RT.out.step B.out) (RA.out.step B.out) (by omega)).mono ?_
    rintro e3 wn ⟨An, mn, cn, yn, qn, rfl, he, hn, hm, hs, hb⟩
    have HVn := Lib.hid (has_rest (ya := ya) (v := v) he hn)
    have Sn := Lib.hid hs
    have hmn : mn ≤ 100000 := by omega
    replace B := Lib.hid (B.out.step' hb)
    clear he hn hm hs hb
    (try go_wp2_with fail)
    refine hK.out _ _ ?_ (fun hHeld2 => ?_)
    · (try dsimp only); exact KS.out _ B.out
    clear hK K hHeld
    have hHeld := hHeld2
    clear hHeld2
    (try simp only [Act.put, List.setIfInBounds_toArray, List.set_cons_zero, List.set_cons_succ])
    refine wpAnyH_ready (rs := [26]) (by kernel_rfl) (by simp) ?_
    refine AllReadyH.cons (take_at rfl) (fun K hK => ?_) AllReadyH.nil
    go_simp
    have HC := has_any yn An mn cn v cv _ (RT.out.step B.out) Sn.out hmn (RV.out.step B.out)
    rw [HVn.out] at HC
    (try rw [← EX.out] at HC)
    (try rw [← EY.out] at HC)
    (try rw [← EO.out] at HC)
    (try simp only [Bool.and_true, Bool.and_false, Bool.true_and, Bool.false_and, Bool.or_true, Bool.or_false, Bool.true_or, Bool.false_or, Bool.not_true, Bool.not_false] at HC)
    refine HC.mono ?_
    clear HC
    rintro e3 wh ⟨rfl, hb⟩
    replace B := Lib.hid (B.out.step' hb)
    clear hb HVn Sn hmn
    (try go_wp2_with fail)
    refine hK.out _ _ ?_ (fun hHeld2 => ?_)
    · (try dsimp only); exact KS.out _ B.out
    clear hK K hHeld
    have hHeld := hHeld2
    clear hHeld2
    (try simp only [Act.put, List.setIfInBounds_toArray, List.set_cons_zero, List.set_cons_succ])
    refine wpAnyH_take (i := 28) (v := ?_) (take_at rfl) (by kernel_rfl) (by kernel_rfl) (by kernel_rfl) (fun _ _ _ h => h) (Or.inl ⟨by rfl, ?_⟩) (by assumption) ?_
    rotate_left
    · intro w' hSw; (try dsimp only at hSw); go_simp; (try with_reducible rfl)
    (try simp only [Act.put, List.setIfInBounds_toArray, List.set_cons_zero, List.set_cons_succ])
    refine wpAnyH_take (i := 29) (v := ?_) (take_at rfl) (by kernel_rfl) (by kernel_rfl) (by kernel_rfl) (fun _ _ _ h => h) (Or.inl ⟨by rfl, ?_⟩) (by assumption) ?_
    rotate_left
    · intro w' hSw; (try dsimp only at hSw); go_simp; (try with_reducible rfl)
    (try simp only [Act.put, List.setIfInBounds_toArray, List.set_cons_zero, List.set_cons_succ])
    refine wpAnyH_take (i := 30) (v := ?_) (take_at rfl) (by kernel_rfl) (by kernel_rfl) (by kernel_rfl) (fun _ _ _ h => h) (Or.inl ⟨by rfl, ?_⟩) (by assumption) ?_
    rotate_left
    · intro w' hSw; (try dsimp only at hSw); go_simp; (try with_reducible rfl)
    (try simp only [Act.put, List.setIfInBounds_toArray, List.set_cons_zero, List.set_cons_succ])
    refine wpAnyH_take (i := 31) (v := ?_) (take_at rfl) (by kernel_rfl) (by kernel_rfl) (by kernel_rfl) (fun _ _ _ h => h) (Or.inl ⟨by rfl, ?_⟩) (by assumption) ?_
    rotate_left
    · intro w' hSw; (try dsimp only at hSw); go_simp; (try with_reducible rfl)
    (try simp only [Act.put, List.setIfInBounds_toArray, List.set_cons_zero, List.set_cons_succ])
    refine wpAnyH_take (i := 32) (v := ?_) (take_at rfl) (by kernel_rfl) (by kernel_rfl) (by kernel_rfl) (fun _ _ _ h => h) (Or.inl ⟨by rfl, ?_⟩) (by assumption) ?_
    rotate_left
    · intro w' hSw; (try dsimp only at hSw); go_simp; (try with_reducible rfl)
    (try simp only [Act.put, List.setIfInBounds_toArray, List.set_cons_zero, List.set_cons_succ])
    refine wpAnyH_take (i := 33) (v := ?_) (take_at rfl) (by kernel_rfl) (by kernel_rfl) (by kernel_rfl) (fun _ _ _ h => h) (Or.inl ⟨by rfl, ?_⟩) (by assumption) ?_
    rotate_left
    · intro w' hSw; (try dsimp only at hSw); go_simp; (try with_reducible rfl)
    (try simp only [Act.put, List.setIfInBounds_toArray, List.set_cons_zero, List.set_cons_succ])
    refine wpAnyH_done (by kernel_rfl) ?_ _
    refine NoPanic.normal ?_
    clear KS RT RA RB RV hHeld
    replace I := Lib.hid (I.out.step B.out)
    clear B
    go_upto_region 7 with fail
    obtain ⟨x0, x1, x2, x3, x4⟩ := VAt.of_blk I.out.b
    have B := Lib.hid ((Below.refl wh.heap.size wh).drewN 1)
    have RT := Lib.hid (HT.out.step I.out.bel)
    have RA := Lib.hid (Sa.out.step I.out.bel)
    have RB := Lib.hid (Sb.out.step I.out.bel)
    have RV := Lib.hid (Sv.out.step I.out.bel)
    have KS : Hid (∀ w', Below wh.heap.size wh w' → w'.cell? ⟨w.heap.size, 0, none⟩ = some (.int .i64 cv.k) ∧ w'.cell? ⟨w.heap.size, 1, none⟩ = some (.int .i64 cv.n) ∧ w'.cell? ⟨w.heap.size, 2, none⟩ = some (.string cv.t) ∧ w'.cell? ⟨w.heap.size, 3, none⟩ = some (.slice cv.LA cv.ln cv.lc) ∧ w'.cell? ⟨w.heap.size, 4, none⟩ = some (.slice cv.DA cv.dn cv.dc)) := fun w' hb => ⟨(hb.cell (p := ⟨w.heap.size, 0, none⟩) I.out.b.lt).trans x0, (hb.cell (p := ⟨w.heap.size, 1, none⟩) I.out.b.lt).trans x1, (hb.cell (p := ⟨w.heap.size, 2, none⟩) I.out.b.lt).trans x2, (hb.cell (p := ⟨w.heap.size, 3, none⟩) I.out.b.lt).trans x3, (hb.cell (p := ⟨w.heap.size, 4, none⟩) I.out.b.lt).trans x4⟩
    clear x0 x1 x2 x3 x4
    refine wp_region_noPanic ?_
    refine wp_region_held_drew (S := (fun w' => w'.cell? ⟨w.heap.size, 0, none⟩ = some (.int .i64 cv.k) ∧ w'.cell? ⟨w.heap.size, 1, none⟩ = some (.int .i64 cv.n) ∧ w'.cell? ⟨w.heap.size, 2, none⟩ = some (.string cv.t) ∧ w'.cell? ⟨w.heap.size, 3, none⟩ = some (.slice cv.LA cv.ln cv.lc) ∧ w'.cell? ⟨w.heap.size, 4, none⟩ = some (.slice cv.DA cv.dn cv.dc))) (by kernel_rfl) ?_ (fun hHeld => ?_)
    · (try dsimp only); exact KS.out _ B.out
    refine wpAnyH_take (i := 0) (v := ?_) (take_at rfl) (by kernel_rfl) (by kernel_rfl) (by kernel_rfl) (fun _ _ _ h => h) (Or.inl ⟨by rfl, ?_⟩) (by assumption) ?_
    rotate_left
    · intro w' hSw; (try dsimp only at hSw); go_simp; (try with_reducible rfl)
    (try simp only [Act.put, List.setIfInBounds_toArray, List.set_cons_zero, List.set_cons_succ])
    refine wpAnyH_take (i := 2) (v := ?_) (take_at rfl) (by kernel_rfl) (by kernel_rfl) (by kernel_rfl) (fun _ _ _ h => h) (Or.inl ⟨by rfl, ?_⟩) (by assumption) ?_
    rotate_left
    · intro w' hSw; (try dsimp only at hSw); go_simp; (try with_reducible rfl)
    (try simp only [Act.put, List.setIfInBounds_toArray, List.set_cons_zero, List.set_cons_succ])
    refine wpAnyH_take (i := 4) (v := ?_) (take_at rfl) (by kernel_rfl) (by kernel_rfl) (by kernel_rfl) (fun _ _ _ h => h) (Or.inl ⟨by rfl, ?_⟩) (by assumption) ?_
    rotate_left
    · intro w' hSw; (try dsimp only at hSw); go_simp; (try with_reducible rfl)
    (try simp only [Act.put, List.setIfInBounds_toArray, List.set_cons_zero, List.set_cons_succ])
    refine wpAnyH_ready (rs := [1]) (by kernel_rfl) (by simp) ?_
    refine AllReadyH.cons (take_at rfl) (fun K hK => ?_) AllReadyH.nil
    go_simp
    refine (normal_any ya Aa ma ca _ (RT.out.step B.out) (RA.out.step B.out) (by omega)).mono ?_
    rintro e3 wn ⟨An, mn, cn, yn, qn, rfl, he, hn, hm, hs, hb⟩
    have HVn := Lib.hid (has_normal (ya := ya) (v := v) he hn)
    have Sn := Lib.hid hs
    have hmn : mn ≤ 100000 := by omega
    replace B := Lib.hid (B.out.step' hb)
    clear he hn hm hs hb
    (try go_wp2_with fail)
    refine hK.out _ _ ?_ (fun hHeld2 => ?_)
    · (try dsimp only); exact KS.out _ B.out
    clear hK K hHeld
    have hHeld := hHeld2
    clear hHeld2
    (try simp only [Act.put, List.setIfInBounds_toArray, List.set_cons_zero, List.set_cons_succ])
    refine wpAnyH_ready (rs := [3]) (by kernel_rfl) (by simp) ?_
    refine AllReadyH.cons (take_at rfl) (fun K hK => ?_) AllReadyH.nil
    go_simp
    have HC := has_any yn An mn cn v cv _ (RT.out.step B.out) Sn.out hmn (RV.out.step B.out)
    rw [HVn.out] at HC
    (try rw [← EX.out] at HC)
    (try rw [← EY.out] at HC)
    (try rw [← EO.out] at HC)
    (try simp only [Bool.and_true, Bool.and_false, Bool.true_and, Bool.false_and, Bool.or_true, Bool.or_false, Bool.true_or, Bool.false_or, Bool.not_true, Bool.not_false] at HC)
    refine HC.mono ?_
    clear HC
    rintro e3 wh ⟨rfl, hb⟩
    replace B := Lib.hid (B.out.step' hb)
    clear hb HVn Sn hmn
    (try go_wp2_with fail)
    refine hK.out _ _ ?_ (fun hHeld2 => ?_)
    · (try dsimp only); exact KS.out _ B.out
    clear hK K hHeld
    have hHeld := hHeld2
    clear hHeld2
    (try simp only [Act.put, List.setIfInBounds_toArray, List.set_cons_zero, List.set_cons_succ])
    refine wpAnyH_take (i := 5) (v := ?_) (take_at rfl) (by kernel_rfl) (by kernel_rfl) (by kernel_rfl) (fun _ _ _ h => h) (Or.inl ⟨by rfl, ?_⟩) (by assumption) ?_
    rotate_left
    · intro w' hSw; (try dsimp only at hSw); go_simp; (try with_reducible rfl)
    (try simp only [Act.put, List.setIfInBounds_toArray, List.set_cons_zero, List.set_cons_succ])
    refine wpAnyH_take (i := 6) (v := ?_) (take_at rfl) (by kernel_rfl) (by kernel_rfl) (by kernel_rfl) (fun _ _ _ h => h) (Or.inl ⟨by rfl, ?_⟩) (by assumption) ?_
    rotate_left
    · intro w' hSw; (try dsimp only at hSw); go_simp; (try with_reducible rfl)
    (try simp only [Act.put, List.setIfInBounds_toArray, List.set_cons_zero, List.set_cons_succ])
    refine wpAnyH_take (i := 8) (v := ?_) (take_at rfl) (by kernel_rfl) (by kernel_rfl) (by kernel_rfl) (fun _ _ _ h => h) (Or.inl ⟨by rfl, ?_⟩) (by assumption) ?_
    rotate_left
    · intro w' hSw; (try dsimp only at hSw); go_simp; (try with_reducible rfl)
    (try simp only [Act.put, List.setIfInBounds_toArray, List.set_cons_zero, List.set_cons_succ])
    refine wpAnyH_take (i := 10) (v := ?_) (take_at rfl) (by kernel_rfl) (by kernel_rfl) (by kernel_rfl) (fun _ _ _ h => h) (Or.inl ⟨by rfl, ?_⟩) (by assumption) ?_
    rotate_left
    · intro w' hSw; (try dsimp only at hSw); go_simp; (try with_reducible rfl)
    (try simp only [Act.put, List.setIfInBounds_toArray, List.set_cons_zero, List.set_cons_succ])
    refine wpAnyH_ready (rs := [7]) (by kernel_rfl) (by simp) ?_
    refine AllReadyH.cons (take_at rfl) (fun K hK => ?_) AllReadyH.nil
    go_simp
    refine (all_any _).mono ?_
    rintro e3 wn ⟨An, mn, cn, yn, qn, rfl, he, hn, hm, hs, hb⟩
    have HVn := Lib.hid (has_all (v := v) he hn)
    have Sn := Lib.hid hs
    have hmn : mn ≤ 100000 := by omega
    replace B := Lib.hid (B.out.step' hb)
    clear he hn hm hs hb
    (try go_wp2_with fail)
    refine hK.out _ _ ?_ (fun hHeld2 => ?_)
    · (try dsimp only); exact KS.out _ B.out
    clear hK K hHeld
    have hHeld := hHeld2
    clear hHeld2
    (try simp only [Act.put, List.setIfInBounds_toArray, List.set_cons_zero, List.set_cons_succ])
    refine wpAnyH_ready (rs := [9]) (by kernel_rfl) (by simp) ?_
    refine AllReadyH.cons (take_at rfl) (fun K hK => ?_) AllReadyH.nil
    go_simp
    have HC := has_any yn An mn cn v cv _ (RT.out.step B.out) Sn.out hmn (RV.out.step B.out)
    rw [HVn.out] at HC
    (try rw [← EX.out] at HC)
    (try rw [← EY.out] at HC)
    (try rw [← EO.out] at HC)
    (try simp only [Bool.and_true, Bool.and_false, Bool.true_and, Bool.false_and, Bool.or_true, Bool.or_false, Bool.true_or, Bool.false_or, Bool.not_true, Bool.not_false] at HC)
    refine HC.mono ?_
    clear HC
    rintro e3 wh ⟨rfl, hb⟩
    replace B := Lib.hid (B.out.step' hb)
    clear hb HVn Sn hmn
    (try go_wp2_with fail)
    refine hK.out _ _ ?_ (fun hHeld2 => ?_)
    · (try dsimp only); exact KS.out _ B.out
    clear hK K hHeld
    have hHeld := hHeld2
    clear hHeld2
    (try simp only [Act.put, List.setIfInBounds_toArray, List.set_cons_zero, List.set_cons_succ])
    refine wpAnyH_take (i := 11) (v := ?_) (take_at rfl) (by kernel_rfl) (by kernel_rfl) (by kernel_rfl) (fun _ _ _ h => h) (Or.inl ⟨by rfl, ?_⟩) (by assumption) ?_
    rotate_left
    · intro w' hSw; (try dsimp only at hSw); go_simp; (try with_reducible rfl)
    (try simp only [Act.put, List.setIfInBounds_toArray, List.set_cons_zero, List.set_cons_succ])
    refine wpAnyH_take (i := 12) (v := ?_) (take_at rfl) (by kernel_rfl) (by kernel_rfl) (by kernel_rfl) (fun _ _ _ h => h) (Or.inl ⟨by rfl, ?_⟩) (by assumption) ?_
    rotate_left
    · intro w' hSw; (try dsimp only at hSw); go_simp; (try with_reducible rfl)
    (try simp only [Act.put, List.setIfInBounds_toArray, List.set_cons_zero, List.set_cons_succ])
    refine wpAnyH_take (i := 13) (v := ?_) (take_at rfl) (by kernel_rfl) (by kernel_rfl) (by kernel_rfl) (fun _ _ _ h => h) (Or.inl ⟨by rfl, ?_⟩) (by assumption) ?_
    rotate_left
    · intro w' hSw; (try dsimp only at hSw); go_simp; (try with_reducible rfl)
    (try simp only [Act.put, List.setIfInBounds_toArray, List.set_cons_zero, List.set_cons_succ])
    refine wpAnyH_take (i := 14) (v := ?_) (take_at rfl) (by kernel_rfl) (by kernel_rfl) (by kernel_rfl) (fun _ _ _ h => h) (Or.inl ⟨by rfl, ?_⟩) (by assumption) ?_
    rotate_left
    · intro w' hSw; (try dsimp only at hSw); go_simp; (try with_reducible rfl)
    (try simp only [Act.put, List.setIfInBounds_toArray, List.set_cons_zero, List.set_cons_succ])
    refine wpAnyH_take (i := 17) (v := ?_) (take_at rfl) (by kernel_rfl) (by kernel_rfl) (by kernel_rfl) (fun _ _ _ h => h) (Or.inl ⟨by rfl, ?_⟩) (by assumption) ?_
    rotate_left
    · intro w' hSw; (try dsimp only at hSw); go_simp; (try with_reducible rfl)
    (try simp only [Act.put, List.setIfInBounds_toArray, List.set_cons_zero, List.set_cons_succ])
    refine wpAnyH_take (i := 19) (v := ?_) (take_at rfl) (by kernel_rfl) (by kernel_rfl) (by kernel_rfl) (fun _ _ _ h => h) (Or.inl ⟨by rfl, ?_⟩) (by assumption) ?_
    rotate_left
    · intro w' hSw; (try dsimp only at hSw); go_simp; (try with_reducible rfl)
    (try simp only [Act.put, List.setIfInBounds_toArray, List.set_cons_zero, List.set_cons_succ])
    refine wpAnyH_ready (rs := [15]) (by kernel_rfl) (by simp) ?_
    refine AllReadyH.cons (take_at rfl) (fun K hK => ?_) AllReadyH.nil
    go_simp
    refine hK.out _ _ ?_ (fun hHeld2 => ?_)
    · (try dsimp only); exact KS.out _ (B.out.alloc B.out.size _)
    have SP : Hid (SL (fun _ => True) _ (some ⟨_, 0, none⟩) 1 1 [(cv, v)]) := Lib.hid (sl_list (Blk.new _ 30 (flat recV [(cv, v)]).toArray) rfl (by decide) (by intro p hp; simp only [List.mem_cons, List.not_mem_nil, or_false] at hp; subst hp; exact RV.out.step (B.out.alloc B.out.size _)))
    replace B := Lib.hid (B.out.alloc B.out.size (Obj.cells (flat recV [(cv, v)]).toArray 30))
    clear hK K hHeld
    have hHeld := hHeld2
    clear hHeld2
    (try simp only [Act.put, List.setIfInBounds_toArray, List.set_cons_zero, List.set_cons_succ])
    refine wpAnyH_ready (rs := [16]) (by kernel_rfl) (by simp) ?_
    refine AllReadyH.cons (take_at rfl) (fun K hK => ?_) AllReadyH.nil
    go_simp
    refine (points_any [(cv, v)] _ 1 1 _ (RT.out.step B.out) SP.out (by omega)).mono ?_
    rintro e3 wn ⟨An, mn, cn, yn, qn, rfl, he, hn, hm, hs, hb⟩
    have HVn := Lib.hid (has_points (cv := cv) (v := v) he hn)
    have Sn := Lib.hid hs
    have hmn : mn ≤ 100000 := by omega
    replace B := Lib.hid (B.out.step' hb)
    clear he hn hm hs hb
    (try go_wp2_with fail)
    refine hK.out _ _ ?_ (fun hHeld2 => ?_)
    · (try dsimp only); exact KS.out _ B.out
    clear hK K hHeld
    have hHeld := hHeld2
    clear hHeld2
    (try simp only [Act.put, List.setIfInBounds_toArray, List.set_cons_zero, List.set_cons_succ])
    refine wpAnyH_ready (rs := [18]) (by kernel_rfl) (by simp) ?_
    refine AllReadyH.cons (take_at rfl) (fun K hK => ?_) AllReadyH.nil
    go_simp
    have HC := has_any yn An mn cn v cv _ (RT.out.step B.out) Sn.out hmn (RV.out.step B.out)
    rw [HVn.out] at HC
    (try rw [← EX.out] at HC)
    (try rw [← EY.out] at HC)
    (try rw [← EO.out] at HC)
    (try simp only [Bool.and_true, Bool.and_false, Bool.true_and, Bool.false_and, Bool.or_true, Bool.or_false, Bool.true_or, Bool.false_or, Bool.not_true, Bool.not_false] at HC)
    refine HC.mono ?_
    clear HC
    rintro e3 wh ⟨rfl, hb⟩
    replace B := Lib.hid (B.out.step' hb)
    clear hb HVn Sn hmn
    (try go_wp2_with fail)
    refine hK.out _ _ ?_ (fun hHeld2 => ?_)
    · (try dsimp only); exact KS.out _ B.out
    clear hK K hHeld
    have hHeld := hHeld2
    clear hHeld2
    (try simp only [Act.put, List.setIfInBounds_toArray, List.set_cons_zero, List.set_cons_succ])
    refine wpAnyH_take (i := 20) (v := ?_) (take_at rfl) (by kernel_rfl) (by kernel_rfl) (by kernel_rfl) (fun _ _ _ h => h) (Or.inl ⟨by rfl, ?_⟩) (by assumption) ?_
    rotate_left
    · intro w' hSw; (try dsimp only at hSw); go_simp; (try with_reducible rfl)
    (try simp only [Act.put, List.setIfInBounds_toArray, List.set_cons_zero, List.set_cons_succ])
    refine wpAnyH_take (i := 21) (v := ?_) (take_at rfl) (by kernel_rfl) (by kernel_rfl) (by kernel_rfl) (fun _ _ _ h => h) (Or.inl ⟨by rfl, ?_⟩) (by assumption) ?_
    rotate_left
    · intro w' hSw; (try dsimp only at hSw); go_simp; (try with_reducible rfl)
    (try simp only [Act.put, List.setIfInBounds_toArray, List.set_cons_zero, List.set_cons_succ])
    refine wpAnyH_take (i := 22) (v := ?_) (take_at rfl) (by kernel_rfl) (by kernel_rfl) (by kernel_rfl) (fun _ _ _ h => h) (Or.inl ⟨by rfl, ?_⟩) (by assumption) ?_
    rotate_left
    · intro w' hSw; (try dsimp only at hSw); go_simp; (try with_reducible rfl)
    (try simp only [Act.put, List.setIfInBounds_toArray, List.set_cons_zero, List.set_cons_succ])
    refine wpAnyH_take (i := 23) (v := ?_) (take_at rfl) (by kernel_rfl) (by kernel_rfl) (by kernel_rfl) (fun _ _ _ h => h) (Or.inl ⟨by rfl, ?_⟩) (by assumption) ?_
    rotate_left
    · intro w' hSw; (try dsimp only at hSw); go_simp; (try with_reducible rfl)
    (try simp only [Act.put, List.setIfInBounds_toArray, List.set_cons_zero, List.set_cons_succ])
    refine wpAnyH_take (i := 24) (v := ?_) (take_at rfl) (by kernel_rfl) (by kernel_rfl) (by kernel_rfl) (fun _ _ _ h => h) (Or.inl ⟨by rfl, ?_⟩) (by assumption) ?_
    rotate_left
    · intro w' hSw; (try dsimp only at hSw); go_simp; (try with_reducible rfl)
    (try simp only [Act.put, List.setIfInBounds_toArray, List.set_cons_zero, List.set_cons_succ])
    refine wpAnyH_take (i := 25) (v := undef) (take_at rfl) (by kernel_rfl) (by kernel_rfl) (by kernel_rfl) (fun _ _ _ h => h) (Or.inr ⟨by rfl, rfl⟩) (by assumption) ?_
    (try simp only [Act.put, List.setIfInBounds_toArray, List.set_cons_zero, List.set_cons_succ])
    refine wpAnyH_take (i := 26) (v := undef) (take_at rfl) (by kernel_rfl) (by kernel_rfl) (by kernel_rfl) (fun _ _ _ h => h) (Or.inr ⟨by rfl, rfl⟩) (by assumption) ?_
    (try simp only [Act.put, List.setIfInBounds_toArray, List.set_cons_zero, List.set_cons_succ])
    refine wpAnyH_take (i := 27) (v := ?_) (take_at rfl) (by kernel_rfl) (by kernel_rfl) (by kernel_rfl) (fun _ _ _ h => h) (Or.inl ⟨by rfl, ?_⟩) (by assumption) ?_
    rotate_left
    · intro w' hSw; (try dsimp only at hSw); go_simp; (try with_reducible rfl)
    (try simp only [Act.put, List.setIfInBounds_toArray, List.set_cons_zero, List.set_cons_succ])
    refine wpAnyH_take (i := 28) (v := ?_) (take_at rfl) (by kernel_rfl) (by kernel_rfl) (by kernel_rfl) (fun _ _ _ h => h) (Or.inl ⟨by rfl, ?_⟩) (by assumption) ?_
    rotate_left
    · intro w' hSw; (try dsimp only at hSw); go_simp; (try with_reducible rfl)
    (try simp only [Act.put, List.setIfInBounds_toArray, List.set_cons_zero, List.set_cons_succ])
    refine wpAnyH_take (i := 29) (v := ?_) (take_at rfl) (by kernel_rfl) (by kernel_rfl) (by kernel_rfl) (fun _ _ _ h => h) (Or.inl ⟨by rfl, ?_⟩) (by assumption) ?_
    rotate_left
    · intro w' hSw; (try dsimp only at hSw); go_simp; (try with_reducible rfl)
    (try simp only [Act.put, List.setIfInBounds_toArray, List.set_cons_zero, List.set_cons_succ])
    refine wpAnyH_ready (rs := [30]) (by kernel_rfl) (by simp) ?_
    refine AllReadyH.cons (take_at rfl) (fun K hK => ?_) AllReadyH.nil
    go_simp
    refine (awake24_any _ (RT.out.step B.out)).mono ?_
    rintro e3 wk ⟨rfl, hb⟩
    replace B := Lib.hid (B.out.step' hb)
    clear hb
    (try go_wp2_with fail)
    refine hK.out _ _ ?_ (fun hHeld2 => ?_)
    · (try dsimp only); exact KS.out _ B.out
    clear hK K hHeld
    have hHeld := hHeld2
    clear hHeld2
    (try simp only [Act.put, List.setIfInBounds_toArray, List.set_cons_zero, List.set_cons_succ])
    refine wpAnyH_take (i := 31) (v := ?_) (take_at rfl) (by kernel_rfl) (by kernel_rfl) (by kernel_rfl) (fun _ _ _ h => h) (Or.inl ⟨by rfl, ?_⟩) (by assumption) ?_
    rotate_left
    · intro w' hSw; (try dsimp only at hSw); go_simp; (try with_reducible rfl)
    (try simp only [Act.put, List.setIfInBounds_toArray, List.set_cons_zero, List.set_cons_succ])
    refine wpAnyH_take (i := 32) (v := ?_) (take_at rfl) (by kernel_rfl) (by kernel_rfl) (by kernel_rfl) (fun _ _ _ h => h) (Or.inl ⟨by rfl, ?_⟩) (by assumption) ?_
    rotate_left
    · intro w' hSw; (try dsimp only at hSw); go_simp; (try with_reducible rfl)
    (try simp only [Act.put, List.setIfInBounds_toArray, List.set_cons_zero, List.set_cons_succ])
    refine wpAnyH_done (by kernel_rfl) ?_ _
    refine NoPanic.normal ?_
    clear KS RT RA RB RV hHeld
    replace I := Lib.hid (I.out.step B.out)
    clear B
    go_wp2_with fail
    go_ret
    exact ⟨rfl, I.out.bel⟩
  · obtain ⟨x0, x1, x2, x3, x4⟩ := VAt.of_blk I.out.b
    have B := Lib.hid ((Below.refl w5.heap.size w5).drewN 1)
    have RT := Lib.hid (HT.out.step I.out.bel)
    have RA := Lib.hid (Sa.out.step I.out.bel)
    have RB := Lib.hid (Sb.out.step I.out.bel)
    have RV := Lib.hid (Sv.out.step I.out.bel)
    have KS : Hid (∀ w', Below w5.heap.size w5 w' → w'.cell? ⟨w.heap.size, 0, none⟩ = some (.int .i64 cv.k) ∧ w'.cell? ⟨w.heap.size, 1, none⟩ = some (.int .i64 cv.n) ∧ w'.cell? ⟨w.heap.size, 2, none⟩ = some (.string cv.t) ∧ w'.cell? ⟨w.heap.size, 3, none⟩ = some (.slice cv.LA cv.ln cv.lc) ∧ w'.cell? ⟨w.heap.size, 4, none⟩ = some (.slice cv.DA cv.dn cv.dc)) := fun w' hb => ⟨(hb.cell (p := ⟨w.heap.size, 0, none⟩) I.out.b.lt).trans x0, (hb.cell (p := ⟨w.heap.size, 1, none⟩) I.out.b.lt).trans x1, (hb.cell (p := ⟨w.heap.size, 2, none⟩) I.out.b.lt).trans x2, (hb.cell (p := ⟨w.heap.size, 3, none⟩) I.out.b.lt).trans x3, (hb.cell (p := ⟨w.heap.size, 4, none⟩) I.out.b.lt).trans x4⟩
    clear x0 x1 x2 x3 x4
    refine wp_region_noPanic ?_
    refine wp_region_held_drew (S := (fun w' => w'.cell? ⟨w.heap.size, 0, none⟩ = some (.int .i64 cv.k) ∧ w'.cell? ⟨w.heap.size, 1, none⟩ = some (.int .i64 cv.n) ∧ w'.cell? ⟨w.heap.size, 2, none⟩ = some (.string cv.t) ∧ w'.cell? ⟨w.heap.size, 3, none⟩ = some (.slice cv.LA cv.ln cv.lc) ∧ w'.cell? ⟨w.heap.size, 4, none⟩ = some (.slice cv.DA cv.dn cv.dc))) (by kernel_rfl) ?_ (fun hHeld => ?_)
    · (try dsimp only); exact KS.out _ B.out
    refine wpAnyH_take (i := 0) (v := ?_) (take_at rfl) (by kernel_rfl) (by kernel_rfl) (by kernel_rfl) (fun _ _ _ h => h) (Or.inl ⟨by rfl, ?_⟩) (by assumption) ?_
    rotate_left
    · intro w' hSw; (try dsimp only at hSw); go_simp; (try with_reducible rfl)
    (try simp only [Act.put, List.setIfInBounds_toArray, List.set_cons_zero, List.set_cons_succ])
    refine wpAnyH_take (i := 1) (v := ?_) (take_at rfl) (by kernel_rfl) (by kernel_rfl) (by kernel_rfl) (fun _ _ _ h => h) (Or.inl ⟨by rfl, ?_⟩) (by assumption) ?_
    rotate_left
    · intro w' hSw; (try dsimp only at hSw); go_simp; (try with_reducible rfl)
    (try simp only [Act.put, List.setIfInBounds_toArray, List.set_cons_zero, List.set_cons_succ])
    refine wpAnyH_take (i := 3) (v := ?_) (take_at rfl) (by kernel_rfl) (by kernel_rfl) (by kernel_rfl) (fun _ _ _ h => h) (Or.inl ⟨by rfl, ?_⟩) (by assumption) ?_
    rotate_left
    · intro w' hSw; (try dsimp only at hSw); go_simp; (try with_reducible rfl)
    (try simp only [Act.put, List.setIfInBounds_toArray, List.set_cons_zero, List.set_cons_succ])
    refine wpAnyH_take (i := 5) (v := ?_) (take_at rfl) (by kernel_rfl) (by kernel_rfl) (by kernel_rfl) (fun _ _ _ h => h) (Or.inl ⟨by rfl, ?_⟩) (by assumption) ?_
    rotate_left
    · intro w' hSw; (try dsimp only at hSw); go_simp; (try with_reducible rfl)
    (try simp only [Act.put, List.setIfInBounds_toArray, List.set_cons_zero, List.set_cons_succ])
    refine wpAnyH_ready (rs := [2]) (by kernel_rfl) (by simp) ?_
    refine AllReadyH.cons (take_at rfl) (fun K hK => ?_) AllReadyH.nil
    go_simp
    refine (meet_any ya yb Aa Ab ma ca mb cb _ (RT.out.step B.out) (RA.out.step B.out) (RB.out.step B.out) (by omega) (by omega)).mono ?_
    rintro e3 wn ⟨An, mn, cn, yn, qn, rfl, he, hn, hm, hs, hb⟩
    have HVn := Lib.hid (has_meet (ya := ya) (yb := yb) (v := v) he hn)
    have Sn := Lib.hid hs
    have hmn : mn ≤ 100000 := by omega
    replace B := Lib.hid (B.out.step' hb)
    clear he hn hm hs hb
    (try go_wp2_with fail)
    refine hK.out _ _ ?_ (fun hHeld2 => ?_)
    · (try dsimp only); exact KS.out _ B.out
    clear hK K hHeld
    have hHeld := hHeld2
    clear hHeld2
    (try simp only [Act.put, List.setIfInBounds_toArray, List.set_cons_zero, List.set_cons_succ])
    refine wpAnyH_ready (rs := [4]) (by kernel_rfl) (by simp) ?_
    refine AllReadyH.cons (take_at rfl) (fun K hK => ?_) AllReadyH.nil
    go_simp
    have HC := has_any yn An mn cn v cv _ (RT.out.step B.out) Sn.out hmn (RV.out.step B.out)
    rw [HVn.out] at HC
    (try rw [← EX.out] at HC)
    (try rw [← EY.out] at HC)
    (try rw [← EO.out] at HC)
    (try simp only [Bool.and_true, Bool.and_false, Bool.true_and, Bool.false_and, Bool.or_true, Bool.or_false, Bool.true_or, Bool.false_or, Bool.not_true, Bool.not_false] at HC)
    refine HC.mono ?_
    clear HC
    rintro e3 wh ⟨rfl, hb⟩
    replace B := Lib.hid (B.out.step' hb)
    clear hb HVn Sn hmn
    (try go_wp2_with fail)
    refine hK.out _ _ ?_ (fun hHeld2 => ?_)
    · (try dsimp only); exact KS.out _ B.out
    clear hK K hHeld
    have hHeld := hHeld2
    clear hHeld2
    (try simp only [Act.put, List.setIfInBounds_toArray, List.set_cons_zero, List.set_cons_succ])
    refine wpAnyH_take (i := 6) (v := ?_) (take_at rfl) (by kernel_rfl) (by kernel_rfl) (by kernel_rfl) (fun _ _ _ h => h) (Or.inl ⟨by rfl, ?_⟩) (by assumption) ?_
    rotate_left
    · intro w' hSw; (try dsimp only at hSw); go_simp; (try with_reducible rfl)
    (try simp only [Act.put, List.setIfInBounds_toArray, List.set_cons_zero, List.set_cons_succ])
    refine wpAnyH_take (i := 7) (v := undef) (take_at rfl) (by kernel_rfl) (by kernel_rfl) (by kernel_rfl) (fun _ _ _ h => h) (Or.inr ⟨by rfl, rfl⟩) (by assumption) ?_
    (try simp only [Act.put, List.setIfInBounds_toArray, List.set_cons_zero, List.set_cons_succ])
    refine wpAnyH_take (i := 8) (v := ?_) (take_at rfl) (by kernel_rfl) (by kernel_rfl) (by kernel_rfl) (fun _ _ _ h => h) (Or.inl ⟨by rfl, ?_⟩) (by assumption) ?_
    rotate_left
    · intro w' hSw; (try dsimp only at hSw); go_simp; (try with_reducible rfl)
    (try simp only [Act.put, List.setIfInBounds_toArray, List.set_cons_zero, List.set_cons_succ])
    refine wpAnyH_take (i := 9) (v := ?_) (take_at rfl) (by kernel_rfl) (by kernel_rfl) (by kernel_rfl) (fun _ _ _ h => h) (Or.inl ⟨by rfl, ?_⟩) (by assumption) ?_
    rotate_left
    · intro w' hSw; (try dsimp only at hSw); go_simp; (try with_reducible rfl)
    (try simp only [Act.put, List.setIfInBounds_toArray, List.set_cons_zero, List.set_cons_succ])
    refine wpAnyH_take (i := 10) (v := ?_) (take_at rfl) (by kernel_rfl) (by kernel_rfl) (by kernel_rfl) (fun _ _ _ h => h) (Or.inl ⟨by rfl, ?_⟩) (by assumption) ?_
    rotate_left
    · intro w' hSw; (try dsimp only at hSw); go_simp; (try with_reducible rfl)
    (try simp only [Act.put, List.setIfInBounds_toArray, List.set_cons_zero, List.set_cons_succ])
    refine wpAnyH_take (i := 11) (v := ?_) (take_at rfl) (by kernel_rfl) (by kernel_rfl) (by kernel_rfl) (fun _ _ _ h => h) (Or.inl ⟨by rfl, ?_⟩) (by assumption) ?_
    rotate_left
    · intro w' hSw; (try dsimp only at hSw); go_simp; (try with_reducible rfl)
    (try simp only [Act.put, List.setIfInBounds_toArray, List.set_cons_zero, List.set_cons_succ])
    refine wpAnyH_take (i := 12) (v := ?_) (take_at rfl) (by kernel_rfl) (by kernel_rfl) (by kernel_rfl) (fun _ _ _ h => h) (Or.inl ⟨by rfl, ?_⟩) (by assumption) ?_
    rotate_left
    · intro w' hSw; (try dsimp only at hSw); go_simp; (try with_reducible rfl)
    (try simp only [Act.put, List.setIfInBounds_toArray, List.set_cons_zero, List.set_cons_succ])
    refine wpAnyH_take (i := 14) (v := ?_) (take_at rfl) (by kernel_rfl) (by kernel_rfl) (by kernel_rfl) (fun _ _ _ h => h) (Or.inl ⟨by rfl, ?_⟩) (by assumption) ?_
    rotate_left
    · intro w' hSw; (try dsimp only at hSw); go_simp; (try with_reducible rfl)
    (try simp only [Act.put, List.setIfInBounds_toArray, List.set_cons_zero, List.set_cons_succ])
    refine wpAnyH_take (i := 16) (v := ?_) (take_at rfl) (by kernel_rfl) (by kernel_rfl) (by kernel_rfl) (fun _ _ _ h => h) (Or.inl ⟨by rfl, ?_⟩) (by assumption) ?_
    rotate_left
    · intro w' hSw; (try dsimp only at hSw); go_simp; (try with_reducible rfl)
    (try simp only [Act.put, List.setIfInBounds_toArray, List.set_cons_zero, List.set_cons_succ])
    refine wpAnyH_ready (rs := [13]) (by kernel_rfl) (by simp) ?_
    refine AllReadyH.cons (take_at rfl) (fun K hK => ?_) AllReadyH.nil
    go_simp
    refine (union_any ya yb Aa Ab ma ca mb cb _ (RT.out.step B.out) (RA.out.step B.out) (RB.out.step B.out) (by omega) (by omega)).mono ?_
    rintro e3 wn ⟨An, mn, cn, yn, qn, rfl, he, hn, hm, hs, hb⟩
    have HVn := Lib.hid (has_union (ya := ya) (yb := yb) (v := v) he hn)
    have Sn := Lib.hid hs
    have hmn : mn ≤ 100000 := by omega
    replace B := Lib.hid (B.out.step' hb)
    clear he hn hm hs hb
    (try go_wp2_with fail)
    refine hK.out _ _ ?_ (fun hHeld2 => ?_)
    · (try dsimp only); exact KS.out _ B.out
    clear hK K hHeld
    have hHeld := hHeld2
    clear hHeld2
    (try simp only [Act.put, List.setIfInBounds_toArray, List.set_cons_zero, List.set_cons_succ])
    refine wpAnyH_ready (rs := [15]) (by kernel_rfl) (by simp) ?_
    refine AllReadyH.cons (take_at rfl) (fun K hK => ?_) AllReadyH.nil
    go_simp
    have HC := has_any yn An mn cn v cv _ (RT.out.step B.out) Sn.out hmn (RV.out.step B.out)
    rw [HVn.out] at HC
    (try rw [← EX.out] at HC)
    (try rw [← EY.out] at HC)
    (try rw [← EO.out] at HC)
    (try simp only [Bool.and_true, Bool.and_false, Bool.true_and, Bool.false_and, Bool.or_true, Bool.or_false, Bool.true_or, Bool.false_or, Bool.not_true, Bool.not_false] at HC)
    refine HC.mono ?_
    clear HC
    rintro e3 wh ⟨rfl, hb⟩
    replace B := Lib.hid (B.out.step' hb)
    clear hb HVn Sn hmn
    (try go_wp2_with fail)
    refine hK.out _ _ ?_ (fun hHeld2 => ?_)
    · (try dsimp only); exact KS.out _ B.out
    clear hK K hHeld
    have hHeld := hHeld2
    clear hHeld2
    (try simp only [Act.put, List.setIfInBounds_toArray, List.set_cons_zero, List.set_cons_succ])
    refine wpAnyH_take (i := 17) (v := ?_) (take_at rfl) (by kernel_rfl) (by kernel_rfl) (by kernel_rfl) (fun _ _ _ h => h) (Or.inl ⟨by rfl, ?_⟩) (by assumption) ?_
    rotate_left
    · intro w' hSw; (try dsimp only at hSw); go_simp; (try with_reducible rfl)
    (try simp only [Act.put, List.setIfInBounds_toArray, List.set_cons_zero, List.set_cons_succ])
    refine wpAnyH_take (i := 18) (v := ?_) (take_at rfl) (by kernel_rfl) (by kernel_rfl) (by kernel_rfl) (fun _ _ _ h => h) (Or.inl ⟨by rfl, ?_⟩) (by assumption) ?_
    rotate_left
    · intro w' hSw; (try dsimp only at hSw); go_simp; (try with_reducible rfl)
    (try simp only [Act.put, List.setIfInBounds_toArray, List.set_cons_zero, List.set_cons_succ])
    refine wpAnyH_take (i := 19) (v := ?_) (take_at rfl) (by kernel_rfl) (by kernel_rfl) (by kernel_rfl) (fun _ _ _ h => h) (Or.inl ⟨by rfl, ?_⟩) (by assumption) ?_
    rotate_left
    · intro w' hSw; (try dsimp only at hSw); go_simp; (try with_reducible rfl)
    (try simp only [Act.put, List.setIfInBounds_toArray, List.set_cons_zero, List.set_cons_succ])
    refine wpAnyH_take (i := 20) (v := ?_) (take_at rfl) (by kernel_rfl) (by kernel_rfl) (by kernel_rfl) (fun _ _ _ h => h) (Or.inl ⟨by rfl, ?_⟩) (by assumption) ?_
    rotate_left
    · intro w' hSw; (try dsimp only at hSw); go_simp; (try with_reducible rfl)
    (try simp only [Act.put, List.setIfInBounds_toArray, List.set_cons_zero, List.set_cons_succ])
    refine wpAnyH_take (i := 21) (v := ?_) (take_at rfl) (by kernel_rfl) (by kernel_rfl) (by kernel_rfl) (fun _ _ _ h => h) (Or.inl ⟨by rfl, ?_⟩) (by assumption) ?_
    rotate_left
    · intro w' hSw; (try dsimp only at hSw); go_simp; (try with_reducible rfl)
    (try simp only [Act.put, List.setIfInBounds_toArray, List.set_cons_zero, List.set_cons_succ])
    refine wpAnyH_take (i := 22) (v := ?_) (take_at rfl) (by kernel_rfl) (by kernel_rfl) (by kernel_rfl) (fun _ _ _ h => h) (Or.inl ⟨by rfl, ?_⟩) (by assumption) ?_
    rotate_left
    · intro w' hSw; (try dsimp only at hSw); go_simp; (try with_reducible rfl)
    (try simp only [Act.put, List.setIfInBounds_toArray, List.set_cons_zero, List.set_cons_succ])
    refine wpAnyH_take (i := 23) (v := ?_) (take_at rfl) (by kernel_rfl) (by kernel_rfl) (by kernel_rfl) (fun _ _ _ h => h) (Or.inl ⟨by rfl, ?_⟩) (by assumption) ?_
    rotate_left
    · intro w' hSw; (try dsimp only at hSw); go_simp; (try with_reducible rfl)
    (try simp only [Act.put, List.setIfInBounds_toArray, List.set_cons_zero, List.set_cons_succ])
    refine wpAnyH_take (i := 25) (v := ?_) (take_at rfl) (by kernel_rfl) (by kernel_rfl) (by kernel_rfl) (fun _ _ _ h => h) (Or.inl ⟨by rfl, ?_⟩) (by assumption) ?_
    rotate_left
    · intro w' hSw; (try dsimp only at hSw); go_simp; (try with_reducible rfl)
    (try simp only [Act.put, List.setIfInBounds_toArray, List.set_cons_zero, List.set_cons_succ])
    refine wpAnyH_take (i := 27) (v := ?_) (take_at rfl) (by kernel_rfl) (by kernel_rfl) (by kernel_rfl) (fun _ _ _ h => h) (Or.inl ⟨by rfl, ?_⟩) (by assumption) ?_
    rotate_left
    · intro w' hSw; (try dsimp only at hSw); go_simp; (try with_reducible rfl)
    (try simp only [Act.put, List.setIfInBounds_toArray, List.set_cons_zero, List.set_cons_succ])
    refine wpAnyH_ready (rs := [24]) (by kernel_rfl) (by simp) ?_
    refine AllReadyH.cons (take_at rfl) (fun K hK => ?_) AllReadyH.nil
    go_simp
    refine (rest_any ya Aa ma ca _ (RT.out.step B.out) (RA.out.step B.out) (by omega)).mono ?_
    rintro e3 wn ⟨An, mn, cn, yn, qn, rfl, he, hn, hm, hs, hb⟩
    have HVn := Lib.hid (has_rest (ya := ya) (v := v) he hn)
    have Sn := Lib.hid hs
    have hmn : mn ≤ 100000 := by omega
    replace B := Lib.hid (B.out.step' hb)
    clear he hn hm hs hb
    (try go_wp2_with fail)
    refine hK.out _ _ ?_ (fun hHeld2 => ?_)
    · (try dsimp only); exact KS.out _ B.out
    clear hK K hHeld
    have hHeld := hHeld2
    clear hHeld2
    (try simp only [Act.put, List.setIfInBounds_toArray, List.set_cons_zero, List.set_cons_succ])
    refine wpAnyH_ready (rs := [26]) (by kernel_rfl) (by simp) ?_
    refine AllReadyH.cons (take_at rfl) (fun K hK => ?_) AllReadyH.nil
    go_simp
    have HC := has_any yn An mn cn v cv _ (RT.out.step B.out) Sn.out hmn (RV.out.step B.out)
    rw [HVn.out] at HC
    (try rw [← EX.out] at HC)
    (try rw [← EY.out] at HC)
    (try rw [← EO.out] at HC)
    (try simp only [Bool.and_true, Bool.and_false, Bool.true_and, Bool.false_and, Bool.or_true, Bool.or_false, Bool.true_or, Bool.false_or, Bool.not_true, Bool.not_false] at HC)
    refine HC.mono ?_
    clear HC
    rintro e3 wh ⟨rfl, hb⟩
    replace B := Lib.hid (B.out.step' hb)
    clear hb HVn Sn hmn
    (try go_wp2_with fail)
    refine hK.out _ _ ?_ (fun hHeld2 => ?_)
    · (try dsimp only); exact KS.out _ B.out
    clear hK K hHeld
    have hHeld := hHeld2
    clear hHeld2
    (try simp only [Act.put, List.setIfInBounds_toArray, List.set_cons_zero, List.set_cons_succ])
    refine wpAnyH_take (i := 28) (v := ?_) (take_at rfl) (by kernel_rfl) (by kernel_rfl) (by kernel_rfl) (fun _ _ _ h => h) (Or.inl ⟨by rfl, ?_⟩) (by assumption) ?_
    rotate_left
    · intro w' hSw; (try dsimp only at hSw); go_simp; (try with_reducible rfl)
    (try simp only [Act.put, List.setIfInBounds_toArray, List.set_cons_zero, List.set_cons_succ])
    refine wpAnyH_take (i := 29) (v := ?_) (take_at rfl) (by kernel_rfl) (by kernel_rfl) (by kernel_rfl) (fun _ _ _ h => h) (Or.inl ⟨by rfl, ?_⟩) (by assumption) ?_
    rotate_left
    · intro w' hSw; (try dsimp only at hSw); go_simp; (try with_reducible rfl)
    (try simp only [Act.put, List.setIfInBounds_toArray, List.set_cons_zero, List.set_cons_succ])
    refine wpAnyH_take (i := 30) (v := ?_) (take_at rfl) (by kernel_rfl) (by kernel_rfl) (by kernel_rfl) (fun _ _ _ h => h) (Or.inl ⟨by rfl, ?_⟩) (by assumption) ?_
    rotate_left
    · intro w' hSw; (try dsimp only at hSw); go_simp; (try with_reducible rfl)
    (try simp only [Act.put, List.setIfInBounds_toArray, List.set_cons_zero, List.set_cons_succ])
    refine wpAnyH_take (i := 31) (v := ?_) (take_at rfl) (by kernel_rfl) (by kernel_rfl) (by kernel_rfl) (fun _ _ _ h => h) (Or.inl ⟨by rfl, ?_⟩) (by assumption) ?_
    rotate_left
    · intro w' hSw; (try dsimp only at hSw); go_simp; (try with_reducible rfl)
    (try simp only [Act.put, List.setIfInBounds_toArray, List.set_cons_zero, List.set_cons_succ])
    refine wpAnyH_take (i := 32) (v := ?_) (take_at rfl) (by kernel_rfl) (by kernel_rfl) (by kernel_rfl) (fun _ _ _ h => h) (Or.inl ⟨by rfl, ?_⟩) (by assumption) ?_
    rotate_left
    · intro w' hSw; (try dsimp only at hSw); go_simp; (try with_reducible rfl)
    (try simp only [Act.put, List.setIfInBounds_toArray, List.set_cons_zero, List.set_cons_succ])
    refine wpAnyH_take (i := 33) (v := ?_) (take_at rfl) (by kernel_rfl) (by kernel_rfl) (by kernel_rfl) (fun _ _ _ h => h) (Or.inl ⟨by rfl, ?_⟩) (by assumption) ?_
    rotate_left
    · intro w' hSw; (try dsimp only at hSw); go_simp; (try with_reducible rfl)
    (try simp only [Act.put, List.setIfInBounds_toArray, List.set_cons_zero, List.set_cons_succ])
    refine wpAnyH_done (by kernel_rfl) ?_ _
    refine NoPanic.normal ?_
    clear KS RT RA RB RV hHeld
    replace I := Lib.hid (I.out.step B.out)
    clear B
    go_upto_region 7 with fail
    obtain ⟨x0, x1, x2, x3, x4⟩ := VAt.of_blk I.out.b
    have B := Lib.hid ((Below.refl wh.heap.size wh).drewN 1)
    have RT := Lib.hid (HT.out.step I.out.bel)
    have RA := Lib.hid (Sa.out.step I.out.bel)
    have RB := Lib.hid (Sb.out.step I.out.bel)
    have RV := Lib.hid (Sv.out.step I.out.bel)
    have KS : Hid (∀ w', Below wh.heap.size wh w' → w'.cell? ⟨w.heap.size, 0, none⟩ = some (.int .i64 cv.k) ∧ w'.cell? ⟨w.heap.size, 1, none⟩ = some (.int .i64 cv.n) ∧ w'.cell? ⟨w.heap.size, 2, none⟩ = some (.string cv.t) ∧ w'.cell? ⟨w.heap.size, 3, none⟩ = some (.slice cv.LA cv.ln cv.lc) ∧ w'.cell? ⟨w.heap.size, 4, none⟩ = some (.slice cv.DA cv.dn cv.dc)) := fun w' hb => ⟨(hb.cell (p := ⟨w.heap.size, 0, none⟩) I.out.b.lt).trans x0, (hb.cell (p := ⟨w.heap.size, 1, none⟩) I.out.b.lt).trans x1, (hb.cell (p := ⟨w.heap.size, 2, none⟩) I.out.b.lt).trans x2, (hb.cell (p := ⟨w.heap.size, 3, none⟩) I.out.b.lt).trans x3, (hb.cell (p := ⟨w.heap.size, 4, none⟩) I.out.b.lt).trans x4⟩
    clear x0 x1 x2 x3 x4
    refine wp_region_noPanic ?_
    refine wp_region_held_drew (S := (fun w' => w'.cell? ⟨w.heap.size, 0, none⟩ = some (.int .i64 cv.k) ∧ w'.cell? ⟨w.heap.size, 1, none⟩ = some (.int .i64 cv.n) ∧ w'.cell? ⟨w.heap.size, 2, none⟩ = some (.string cv.t) ∧ w'.cell? ⟨w.heap.size, 3, none⟩ = some (.slice cv.LA cv.ln cv.lc) ∧ w'.cell? ⟨w.heap.size, 4, none⟩ = some (.slice cv.DA cv.dn cv.dc))) (by kernel_rfl) ?_ (fun hHeld => ?_)
    · (try dsimp only); exact KS.out _ B.out
    refine wpAnyH_take (i := 0) (v := ?_) (take_at rfl) (by kernel_rfl) (by kernel_rfl) (by kernel_rfl) (fun _ _ _ h => h) (Or.inl ⟨by rfl, ?_⟩) (by assumption) ?_
    rotate_left
    · intro w' hSw; (try dsimp only at hSw); go_simp; (try with_reducible rfl)
    (try simp only [Act.put, List.setIfInBounds_toArray, List.set_cons_zero, List.set_cons_succ])
    refine wpAnyH_take (i := 2) (v := ?_) (take_at rfl) (by kernel_rfl) (by kernel_rfl) (by kernel_rfl) (fun _ _ _ h => h) (Or.inl ⟨by rfl, ?_⟩) (by assumption) ?_
    rotate_left
    · intro w' hSw; (try dsimp only at hSw); go_simp; (try with_reducible rfl)
    (try simp only [Act.put, List.setIfInBounds_toArray, List.set_cons_zero, List.set_cons_succ])
    refine wpAnyH_take (i := 4) (v := ?_) (take_at rfl) (by kernel_rfl) (by kernel_rfl) (by kernel_rfl) (fun _ _ _ h => h) (Or.inl ⟨by rfl, ?_⟩) (by assumption) ?_
    rotate_left
    · intro w' hSw; (try dsimp only at hSw); go_simp; (try with_reducible rfl)
    (try simp only [Act.put, List.setIfInBounds_toArray, List.set_cons_zero, List.set_cons_succ])
    refine wpAnyH_ready (rs := [1]) (by kernel_rfl) (by simp) ?_
    refine AllReadyH.cons (take_at rfl) (fun K hK => ?_) AllReadyH.nil
    go_simp
    refine (normal_any ya Aa ma ca _ (RT.out.step B.out) (RA.out.step B.out) (by omega)).mono ?_
    rintro e3 wn ⟨An, mn, cn, yn, qn, rfl, he, hn, hm, hs, hb⟩
    have HVn := Lib.hid (has_normal (ya := ya) (v := v) he hn)
    have Sn := Lib.hid hs
    have hmn : mn ≤ 100000 := by omega
    replace B := Lib.hid (B.out.step' hb)
    clear he hn hm hs hb
    (try go_wp2_with fail)
    refine hK.out _ _ ?_ (fun hHeld2 => ?_)
    · (try dsimp only); exact KS.out _ B.out
    clear hK K hHeld
    have hHeld := hHeld2
    clear hHeld2
    (try simp only [Act.put, List.setIfInBounds_toArray, List.set_cons_zero, List.set_cons_succ])
    refine wpAnyH_ready (rs := [3]) (by kernel_rfl) (by simp) ?_
    refine AllReadyH.cons (take_at rfl) (fun K hK => ?_) AllReadyH.nil
    go_simp
    have HC := has_any yn An mn cn v cv _ (RT.out.step B.out) Sn.out hmn (RV.out.step B.out)
    rw [HVn.out] at HC
    (try rw [← EX.out] at HC)
    (try rw [← EY.out] at HC)
    (try rw [← EO.out] at HC)
    (try simp only [Bool.and_true, Bool.and_false, Bool.true_and, Bool.false_and, Bool.or_true, Bool.or_false, Bool.true_or, Bool.false_or, Bool.not_true, Bool.not_false] at HC)
    refine HC.mono ?_
    clear HC
    rintro e3 wh ⟨rfl, hb⟩
    replace B := Lib.hid (B.out.step' hb)
    clear hb HVn Sn hmn
    (try go_wp2_with fail)
    refine hK.out _ _ ?_ (fun hHeld2 => ?_)
    · (try dsimp only); exact KS.out _ B.out
    clear hK K hHeld
    have hHeld := hHeld2
    clear hHeld2
    (try simp only [Act.put, List.setIfInBounds_toArray, List.set_cons_zero, List.set_cons_succ])
    refine wpAnyH_take (i := 5) (v := ?_) (take_at rfl) (by kernel_rfl) (by kernel_rfl) (by kernel_rfl) (fun _ _ _ h => h) (Or.inl ⟨by rfl, ?_⟩) (by assumption) ?_
    rotate_left
    · intro w' hSw; (try dsimp only at hSw); go_simp; (try with_reducible rfl)
    (try simp only [Act.put, List.setIfInBounds_toArray, List.set_cons_zero, List.set_cons_succ])
    refine wpAnyH_take (i := 6) (v := ?_) (take_at rfl) (by kernel_rfl) (by kernel_rfl) (by kernel_rfl) (fun _ _ _ h => h) (Or.inl ⟨by rfl, ?_⟩) (by assumption) ?_
    rotate_left
    · intro w' hSw; (try dsimp only at hSw); go_simp; (try with_reducible rfl)
    (try simp only [Act.put, List.setIfInBounds_toArray, List.set_cons_zero, List.set_cons_succ])
    refine wpAnyH_take (i := 8) (v := ?_) (take_at rfl) (by kernel_rfl) (by kernel_rfl) (by kernel_rfl) (fun _ _ _ h => h) (Or.inl ⟨by rfl, ?_⟩) (by assumption) ?_
    rotate_left
    · intro w' hSw; (try dsimp only at hSw); go_simp; (try with_reducible rfl)
    (try simp only [Act.put, List.setIfInBounds_toArray, List.set_cons_zero, List.set_cons_succ])
    refine wpAnyH_take (i := 10) (v := ?_) (take_at rfl) (by kernel_rfl) (by kernel_rfl) (by kernel_rfl) (fun _ _ _ h => h) (Or.inl ⟨by rfl, ?_⟩) (by assumption) ?_
    rotate_left
    · intro w' hSw; (try dsimp only at hSw); go_simp; (try with_reducible rfl)
    (try simp only [Act.put, List.setIfInBounds_toArray, List.set_cons_zero, List.set_cons_succ])
    refine wpAnyH_ready (rs := [7]) (by kernel_rfl) (by simp) ?_
    refine AllReadyH.cons (take_at rfl) (fun K hK => ?_) AllReadyH.nil
    go_simp
    refine (all_any _).mono ?_
    rintro e3 wn ⟨An, mn, cn, yn, qn, rfl, he, hn, hm, hs, hb⟩
    have HVn := Lib.hid (has_all (v := v) he hn)
    have Sn := Lib.hid hs
    have hmn : mn ≤ 100000 := by omega
    replace B := Lib.hid (B.out.step' hb)
    clear he hn hm hs hb
    (try go_wp2_with fail)
    refine hK.out _ _ ?_ (fun hHeld2 => ?_)
    · (try dsimp only); exact KS.out _ B.out
    clear hK K hHeld
    have hHeld := hHeld2
    clear hHeld2
    (try simp only [Act.put, List.setIfInBounds_toArray, List.set_cons_zero, List.set_cons_succ])
    refine wpAnyH_ready (rs := [9]) (by kernel_rfl) (by simp) ?_
    refine AllReadyH.cons (take_at rfl) (fun K hK => ?_) AllReadyH.nil
    go_simp
    have HC := has_any yn An mn cn v cv _ (RT.out.step B.out) Sn.out hmn (RV.out.step B.out)
    rw [HVn.out] at HC
    (try rw [← EX.out] at HC)
    (try rw [← EY.out] at HC)
    (try rw [← EO.out] at HC)
    (try simp only [Bool.and_true, Bool.and_false, Bool.true_and, Bool.false_and, Bool.or_true, Bool.or_false, Bool.true_or, Bool.false_or, Bool.not_true, Bool.not_false] at HC)
    refine HC.mono ?_
    clear HC
    rintro e3 wh ⟨rfl, hb⟩
    replace B := Lib.hid (B.out.step' hb)
    clear hb HVn Sn hmn
    (try go_wp2_with fail)
    refine hK.out _ _ ?_ (fun hHeld2 => ?_)
    · (try dsimp only); exact KS.out _ B.out
    clear hK K hHeld
    have hHeld := hHeld2
    clear hHeld2
    (try simp only [Act.put, List.setIfInBounds_toArray, List.set_cons_zero, List.set_cons_succ])
    refine wpAnyH_take (i := 11) (v := ?_) (take_at rfl) (by kernel_rfl) (by kernel_rfl) (by kernel_rfl) (fun _ _ _ h => h) (Or.inl ⟨by rfl, ?_⟩) (by assumption) ?_
    rotate_left
    · intro w' hSw; (try dsimp only at hSw); go_simp; (try with_reducible rfl)
    (try simp only [Act.put, List.setIfInBounds_toArray, List.set_cons_zero, List.set_cons_succ])
    refine wpAnyH_take (i := 12) (v := ?_) (take_at rfl) (by kernel_rfl) (by kernel_rfl) (by kernel_rfl) (fun _ _ _ h => h) (Or.inl ⟨by rfl, ?_⟩) (by assumption) ?_
    rotate_left
    · intro w' hSw; (try dsimp only at hSw); go_simp; (try with_reducible rfl)
    (try simp only [Act.put, List.setIfInBounds_toArray, List.set_cons_zero, List.set_cons_succ])
    refine wpAnyH_take (i := 13) (v := ?_) (take_at rfl) (by kernel_rfl) (by kernel_rfl) (by kernel_rfl) (fun _ _ _ h => h) (Or.inl ⟨by rfl, ?_⟩) (by assumption) ?_
    rotate_left
    · intro w' hSw; (try dsimp only at hSw); go_simp; (try with_reducible rfl)
    (try simp only [Act.put, List.setIfInBounds_toArray, List.set_cons_zero, List.set_cons_succ])
    refine wpAnyH_take (i := 14) (v := ?_) (take_at rfl) (by kernel_rfl) (by kernel_rfl) (by kernel_rfl) (fun _ _ _ h => h) (Or.inl ⟨by rfl, ?_⟩) (by assumption) ?_
    rotate_left
    · intro w' hSw; (try dsimp only at hSw); go_simp; (try with_reducible rfl)
    (try simp only [Act.put, List.setIfInBounds_toArray, List.set_cons_zero, List.set_cons_succ])
    refine wpAnyH_take (i := 17) (v := ?_) (take_at rfl) (by kernel_rfl) (by kernel_rfl) (by kernel_rfl) (fun _ _ _ h => h) (Or.inl ⟨by rfl, ?_⟩) (by assumption) ?_
    rotate_left
    · intro w' hSw; (try dsimp only at hSw); go_simp; (try with_reducible rfl)
    (try simp only [Act.put, List.setIfInBounds_toArray, List.set_cons_zero, List.set_cons_succ])
    refine wpAnyH_take (i := 19) (v := ?_) (take_at rfl) (by kernel_rfl) (by kernel_rfl) (by kernel_rfl) (fun _ _ _ h => h) (Or.inl ⟨by rfl, ?_⟩) (by assumption) ?_
    rotate_left
    · intro w' hSw; (try dsimp only at hSw); go_simp; (try with_reducible rfl)
    (try simp only [Act.put, List.setIfInBounds_toArray, List.set_cons_zero, List.set_cons_succ])
    refine wpAnyH_ready (rs := [15]) (by kernel_rfl) (by simp) ?_
    refine AllReadyH.cons (take_at rfl) (fun K hK => ?_) AllReadyH.nil
    go_simp
    refine hK.out _ _ ?_ (fun hHeld2 => ?_)
    · (try dsimp only); exact KS.out _ (B.out.alloc B.out.size _)
    have SP : Hid (SL (fun _ => True) _ (some ⟨_, 0, none⟩) 1 1 [(cv, v)]) := Lib.hid (sl_list (Blk.new _ 30 (flat recV [(cv, v)]).toArray) rfl (by decide) (by intro p hp; simp only [List.mem_cons, List.not_mem_nil, or_false] at hp; subst hp; exact RV.out.step (B.out.alloc B.out.size _)))
    replace B := Lib.hid (B.out.alloc B.out.size (Obj.cells (flat recV [(cv, v)]).toArray 30))
    clear hK K hHeld
    have hHeld := hHeld2
    clear hHeld2
    (try simp only [Act.put, List.setIfInBounds_toArray, List.set_cons_zero, List.set_cons_succ])
    refine wpAnyH_ready (rs := [16]) (by kernel_rfl) (by simp) ?_
    refine AllReadyH.cons (take_at rfl) (fun K hK => ?_) AllReadyH.nil
    go_simp
    refine (points_any [(cv, v)] _ 1 1 _ (RT.out.step B.out) SP.out (by omega)).mono ?_
    rintro e3 wn ⟨An, mn, cn, yn, qn, rfl, he, hn, hm, hs, hb⟩
    have HVn := Lib.hid (has_points (cv := cv) (v := v) he hn)
    have Sn := Lib.hid hs
    have hmn : mn ≤ 100000 := by omega
    replace B := Lib.hid (B.out.step' hb)
    clear he hn hm hs hb
    (try go_wp2_with fail)
    refine hK.out _ _ ?_ (fun hHeld2 => ?_)
    · (try dsimp only); exact KS.out _ B.out
    clear hK K hHeld
    have hHeld := hHeld2
    clear hHeld2
    (try simp only [Act.put, List.setIfInBounds_toArray, List.set_cons_zero, List.set_cons_succ])
    refine wpAnyH_ready (rs := [18]) (by kernel_rfl) (by simp) ?_
    refine AllReadyH.cons (take_at rfl) (fun K hK => ?_) AllReadyH.nil
    go_simp
    have HC := has_any yn An mn cn v cv _ (RT.out.step B.out) Sn.out hmn (RV.out.step B.out)
    rw [HVn.out] at HC
    (try rw [← EX.out] at HC)
    (try rw [← EY.out] at HC)
    (try rw [← EO.out] at HC)
    (try simp only [Bool.and_true, Bool.and_false, Bool.true_and, Bool.false_and, Bool.or_true, Bool.or_false, Bool.true_or, Bool.false_or, Bool.not_true, Bool.not_false] at HC)
    refine HC.mono ?_
    clear HC
    rintro e3 wh ⟨rfl, hb⟩
    replace B := Lib.hid (B.out.step' hb)
    clear hb HVn Sn hmn
    (try go_wp2_with fail)
    refine hK.out _ _ ?_ (fun hHeld2 => ?_)
    · (try dsimp only); exact KS.out _ B.out
    clear hK K hHeld
    have hHeld := hHeld2
    clear hHeld2
    (try simp only [Act.put, List.setIfInBounds_toArray, List.set_cons_zero, List.set_cons_succ])
    refine wpAnyH_take (i := 20) (v := ?_) (take_at rfl) (by kernel_rfl) (by kernel_rfl) (by kernel_rfl) (fun _ _ _ h => h) (Or.inl ⟨by rfl, ?_⟩) (by assumption) ?_
    rotate_left
    · intro w' hSw; (try dsimp only at hSw); go_simp; (try with_reducible rfl)
    (try simp only [Act.put, List.setIfInBounds_toArray, List.set_cons_zero, List.set_cons_succ])
    refine wpAnyH_take (i := 21) (v := ?_) (take_at rfl) (by kernel_rfl) (by kernel_rfl) (by kernel_rfl) (fun _ _ _ h => h) (Or.inl ⟨by rfl, ?_⟩) (by assumption) ?_
    rotate_left
    · intro w' hSw; (try dsimp only at hSw); go_simp; (try with_reducible rfl)
    (try simp only [Act.put, List.setIfInBounds_toArray, List.set_cons_zero, List.set_cons_succ])
    refine wpAnyH_take (i := 22) (v := ?_) (take_at rfl) (by kernel_rfl) (by kernel_rfl) (by kernel_rfl) (fun _ _ _ h => h) (Or.inl ⟨by rfl, ?_⟩) (by assumption) ?_
    rotate_left
    · intro w' hSw; (try dsimp only at hSw); go_simp; (try with_reducible rfl)
    (try simp only [Act.put, List.setIfInBounds_toArray, List.set_cons_zero, List.set_cons_succ])
    refine wpAnyH_take (i := 23) (v := ?_) (take_at rfl) (by kernel_rfl) (by kernel_rfl) (by kernel_rfl) (fun _ _ _ h => h) (Or.inl ⟨by rfl, ?_⟩) (by assumption) ?_
    rotate_left
    · intro w' hSw; (try dsimp only at hSw); go_simp; (try with_reducible rfl)
    (try simp only [Act.put, List.setIfInBounds_toArray, List.set_cons_zero, List.set_cons_succ])
    refine wpAnyH_take (i := 24) (v := ?_) (take_at rfl) (by kernel_rfl) (by kernel_rfl) (by kernel_rfl) (fun _ _ _ h => h) (Or.inl ⟨by rfl, ?_⟩) (by assumption) ?_
    rotate_left
    · intro w' hSw; (try dsimp only at hSw); go_simp; (try with_reducible rfl)
    (try simp only [Act.put, List.setIfInBounds_toArray, List.set_cons_zero, List.set_cons_succ])
    refine wpAnyH_take (i := 25) (v := undef) (take_at rfl) (by kernel_rfl) (by kernel_rfl) (by kernel_rfl) (fun _ _ _ h => h) (Or.inr ⟨by rfl, rfl⟩) (by assumption) ?_
    (try simp only [Act.put, List.setIfInBounds_toArray, List.set_cons_zero, List.set_cons_succ])
    refine wpAnyH_take (i := 26) (v := undef) (take_at rfl) (by kernel_rfl) (by kernel_rfl) (by kernel_rfl) (fun _ _ _ h => h) (Or.inr ⟨by rfl, rfl⟩) (by assumption) ?_
    (try simp only [Act.put, List.setIfInBounds_toArray, List.set_cons_zero, List.set_cons_succ])
    refine wpAnyH_take (i := 27) (v := ?_) (take_at rfl) (by kernel_rfl) (by kernel_rfl) (by kernel_rfl) (fun _ _ _ h => h) (Or.inl ⟨by rfl, ?_⟩) (by assumption) ?_
    rotate_left
    · intro w' hSw; (try dsimp only at hSw); go_simp; (try with_reducible rfl)
    (try simp only [Act.put, List.setIfInBounds_toArray, List.set_cons_zero, List.set_cons_succ])
    refine wpAnyH_take (i := 28) (v := ?_) (take_at rfl) (by kernel_rfl) (by kernel_rfl) (by kernel_rfl) (fun _ _ _ h => h) (Or.inl ⟨by rfl, ?_⟩) (by assumption) ?_
    rotate_left
    · intro w' hSw; (try dsimp only at hSw); go_simp; (try with_reducible rfl)
    (try simp only [Act.put, List.setIfInBounds_toArray, List.set_cons_zero, List.set_cons_succ])
    refine wpAnyH_take (i := 29) (v := ?_) (take_at rfl) (by kernel_rfl) (by kernel_rfl) (by kernel_rfl) (fun _ _ _ h => h) (Or.inl ⟨by rfl, ?_⟩) (by assumption) ?_
    rotate_left
    · intro w' hSw; (try dsimp only at hSw); go_simp; (try with_reducible rfl)
    (try simp only [Act.put, List.setIfInBounds_toArray, List.set_cons_zero, List.set_cons_succ])
    refine wpAnyH_ready (rs := [30]) (by kernel_rfl) (by simp) ?_
    refine AllReadyH.cons (take_at rfl) (fun K hK => ?_) AllReadyH.nil
    go_simp
    refine (awake24_any _ (RT.out.step B.out)).mono ?_
    rintro e3 wk ⟨rfl, hb⟩
    replace B := Lib.hid (B.out.step' hb)
    clear hb
    (try go_wp2_with fail)
    refine hK.out _ _ ?_ (fun hHeld2 => ?_)
    · (try dsimp only); exact KS.out _ B.out
    clear hK K hHeld
    have hHeld := hHeld2
    clear hHeld2
    (try simp only [Act.put, List.setIfInBounds_toArray, List.set_cons_zero, List.set_cons_succ])
    refine wpAnyH_take (i := 31) (v := ?_) (take_at rfl) (by kernel_rfl) (by kernel_rfl) (by kernel_rfl) (fun _ _ _ h => h) (Or.inl ⟨by rfl, ?_⟩) (by assumption) ?_
    rotate_left
    · intro w' hSw; (try dsimp only at hSw); go_simp; (try with_reducible rfl)
    (try simp only [Act.put, List.setIfInBounds_toArray, List.set_cons_zero, List.set_cons_succ])
    refine wpAnyH_take (i := 32) (v := ?_) (take_at rfl) (by kernel_rfl) (by kernel_rfl) (by kernel_rfl) (fun _ _ _ h => h) (Or.inl ⟨by rfl, ?_⟩) (by assumption) ?_
    rotate_left
    · intro w' hSw; (try dsimp only at hSw); go_simp; (try with_reducible rfl)
    (try simp only [Act.put, List.setIfInBounds_toArray, List.set_cons_zero, List.set_cons_succ])
    refine wpAnyH_done (by kernel_rfl) ?_ _
    refine NoPanic.normal ?_
    clear KS RT RA RB RV hHeld
    replace I := Lib.hid (I.out.step B.out)
    clear B
    go_wp2_with fail
    go_ret
    exact ⟨rfl, I.out.bel⟩
  · obtain ⟨x0, x1, x2, x3, x4⟩ := VAt.of_blk I.out.b
    have B := Lib.hid ((Below.refl w5.heap.size w5).drewN 1)
    have RT := Lib.hid (HT.out.step I.out.bel)
    have RA := Lib.hid (Sa.out.step I.out.bel)
    have RB := Lib.hid (Sb.out.step I.out.bel)
    have RV := Lib.hid (Sv.out.step I.out.bel)
    have KS : Hid (∀ w', Below w5.heap.size w5 w' → w'.cell? ⟨w.heap.size, 0, none⟩ = some (.int .i64 cv.k) ∧ w'.cell? ⟨w.heap.size, 1, none⟩ = some (.int .i64 cv.n) ∧ w'.cell? ⟨w.heap.size, 2, none⟩ = some (.string cv.t) ∧ w'.cell? ⟨w.heap.size, 3, none⟩ = some (.slice cv.LA cv.ln cv.lc) ∧ w'.cell? ⟨w.heap.size, 4, none⟩ = some (.slice cv.DA cv.dn cv.dc)) := fun w' hb => ⟨(hb.cell (p := ⟨w.heap.size, 0, none⟩) I.out.b.lt).trans x0, (hb.cell (p := ⟨w.heap.size, 1, none⟩) I.out.b.lt).trans x1, (hb.cell (p := ⟨w.heap.size, 2, none⟩) I.out.b.lt).trans x2, (hb.cell (p := ⟨w.heap.size, 3, none⟩) I.out.b.lt).trans x3, (hb.cell (p := ⟨w.heap.size, 4, none⟩) I.out.b.lt).trans x4⟩
    clear x0 x1 x2 x3 x4
    refine wp_region_noPanic ?_
    refine wp_region_held_drew (S := (fun w' => w'.cell? ⟨w.heap.size, 0, none⟩ = some (.int .i64 cv.k) ∧ w'.cell? ⟨w.heap.size, 1, none⟩ = some (.int .i64 cv.n) ∧ w'.cell? ⟨w.heap.size, 2, none⟩ = some (.string cv.t) ∧ w'.cell? ⟨w.heap.size, 3, none⟩ = some (.slice cv.LA cv.ln cv.lc) ∧ w'.cell? ⟨w.heap.size, 4, none⟩ = some (.slice cv.DA cv.dn cv.dc))) (by kernel_rfl) ?_ (fun hHeld => ?_)
    · (try dsimp only); exact KS.out _ B.out
    refine wpAnyH_take (i := 0) (v := ?_) (take_at rfl) (by kernel_rfl) (by kernel_rfl) (by kernel_rfl) (fun _ _ _ h => h) (Or.inl ⟨by rfl, ?_⟩) (by assumption) ?_
    rotate_left
    · intro w' hSw; (try dsimp only at hSw); go_simp; (try with_reducible rfl)
    (try simp only [Act.put, List.setIfInBounds_toArray, List.set_cons_zero, List.set_cons_succ])
    refine wpAnyH_take (i := 1) (v := ?_) (take_at rfl) (by kernel_rfl) (by kernel_rfl) (by kernel_rfl) (fun _ _ _ h => h) (Or.inl ⟨by rfl, ?_⟩) (by assumption) ?_
    rotate_left
    · intro w' hSw; (try dsimp only at hSw); go_simp; (try with_reducible rfl)
    (try simp only [Act.put, List.setIfInBounds_toArray, List.set_cons_zero, List.set_cons_succ])
    refine wpAnyH_take (i := 3) (v := ?_) (take_at rfl) (by kernel_rfl) (by kernel_rfl) (by kernel_rfl) (fun _ _ _ h => h) (Or.inl ⟨by rfl, ?_⟩) (by assumption) ?_
    rotate_left
    · intro w' hSw; (try dsimp only at hSw); go_simp; (try with_reducible rfl)
    (try simp only [Act.put, List.setIfInBounds_toArray, List.set_cons_zero, List.set_cons_succ])
    refine wpAnyH_take (i := 5) (v := ?_) (take_at rfl) (by kernel_rfl) (by kernel_rfl) (by kernel_rfl) (fun _ _ _ h => h) (Or.inl ⟨by rfl, ?_⟩) (by assumption) ?_
    rotate_left
    · intro w' hSw; (try dsimp only at hSw); go_simp; (try with_reducible rfl)
    (try simp only [Act.put, List.setIfInBounds_toArray, List.set_cons_zero, List.set_cons_succ])
    refine wpAnyH_ready (rs := [2]) (by kernel_rfl) (by simp) ?_
    refine AllReadyH.cons (take_at rfl) (fun K hK => ?_) AllReadyH.nil
    go_simp
    refine (meet_any ya yb Aa Ab ma ca mb cb _ (RT.out.step B.out) (RA.out.step B.out) (RB.out.step B.out) (by omega) (by omega)).mono ?_
    rintro e3 wn ⟨An, mn, cn, yn, qn, rfl, he, hn, hm, hs, hb⟩
    have HVn := Lib.hid (has_meet (ya := ya) (yb := yb) (v := v) he hn)
    have Sn := Lib.hid hs
    have hmn : mn ≤ 100000 := by omega
    replace B := Lib.hid (B.out.step' hb)
    clear he hn hm hs hb
    (try go_wp2_with fail)
    refine hK.out _ _ ?_ (fun hHeld2 => ?_)
    · (try dsimp only); exact KS.out _ B.out
    clear hK K hHeld
    have hHeld := hHeld2
    clear hHeld2
    (try simp only [Act.put, List.setIfInBounds_toArray, List.set_cons_zero, List.set_cons_succ])
    refine wpAnyH_ready (rs := [4]) (by kernel_rfl) (by simp) ?_
    refine AllReadyH.cons (take_at rfl) (fun K hK => ?_) AllReadyH.nil
    go_simp
    have HC := has_any yn An mn cn v cv _ (RT.out.step B.out) Sn.out hmn (RV.out.step B.out)
    rw [HVn.out] at HC
    (try rw [← EX.out] at HC)
    (try rw [← EY.out] at HC)
    (try rw [← EO.out] at HC)
    (try simp only [Bool.and_true, Bool.and_false, Bool.true_and, Bool.false_and, Bool.or_true, Bool.or_false, Bool.true_or, Bool.false_or, Bool.not_true, Bool.not_false] at HC)
    refine HC.mono ?_
    clear HC
    rintro e3 wh ⟨rfl, hb⟩
    replace B := Lib.hid (B.out.step' hb)
    clear hb HVn Sn hmn
    (try go_wp2_with fail)
    refine hK.out _ _ ?_ (fun hHeld2 => ?_)
    · (try dsimp only); exact KS.out _ B.out
    clear hK K hHeld
    have hHeld := hHeld2
    clear hHeld2
    (try simp only [Act.put, List.setIfInBounds_toArray, List.set_cons_zero, List.set_cons_succ])
    refine wpAnyH_take (i := 6) (v := ?_) (take_at rfl) (by kernel_rfl) (by kernel_rfl) (by kernel_rfl) (fun _ _ _ h => h) (Or.inl ⟨by rfl, ?_⟩) (by assumption) ?_
    rotate_left
    · intro w' hSw; (try dsimp only at hSw); go_simp; (try with_reducible rfl)
    (try simp only [Act.put, List.setIfInBounds_toArray, List.set_cons_zero, List.set_cons_succ])
    refine wpAnyH_take (i := 7) (v := undef) (take_at rfl) (by kernel_rfl) (by kernel_rfl) (by kernel_rfl) (fun _ _ _ h => h) (Or.inr ⟨by rfl, rfl⟩) (by assumption) ?_
    (try simp only [Act.put, List.setIfInBounds_toArray, List.set_cons_zero, List.set_cons_succ])
    refine wpAnyH_take (i := 8) (v := ?_) (take_at rfl) (by kernel_rfl) (by kernel_rfl) (by kernel_rfl) (fun _ _ _ h => h) (Or.inl ⟨by rfl, ?_⟩) (by assumption) ?_
    rotate_left
    · intro w' hSw; (try dsimp only at hSw); go_simp; (try with_reducible rfl)
    (try simp only [Act.put, List.setIfInBounds_toArray, List.set_cons_zero, List.set_cons_succ])
    refine wpAnyH_take (i := 9) (v := ?_) (take_at rfl) (by kernel_rfl) (by kernel_rfl) (by kernel_rfl) (fun _ _ _ h => h) (Or.inl ⟨by rfl, ?_⟩) (by assumption) ?_
    rotate_left
    · intro w' hSw; (try dsimp only at hSw); go_simp; (try with_reducible rfl)
    (try simp only [Act.put, List.setIfInBounds_toArray, List.set_cons_zero, List.set_cons_succ])
    refine wpAnyH_take (i := 10) (v := ?_) (take_at rfl) (by kernel_rfl) (by kernel_rfl) (by kernel_rfl) (fun _ _ _ h => h) (Or.inl ⟨by rfl, ?_⟩) (by assumption) ?_
    rotate_left
    · intro w' hSw; (try dsimp only at hSw); go_simp; (try with_reducible rfl)
    (try simp only [Act.put, List.setIfInBounds_toArray, List.set_cons_zero, List.set_cons_succ])
    refine wpAnyH_take (i := 11) (v := ?_) (take_at rfl) (by kernel_rfl) (by kernel_rfl) (by kernel_rfl) (fun _ _ _ h => h) (Or.inl ⟨by rfl, ?_⟩) (by assumption) ?_
    rotate_left
    · intro w' hSw; (try dsimp only at hSw); go_simp; (try with_reducible rfl)
    (try simp only [Act.put, List.setIfInBounds_toArray, List.set_cons_zero, List.set_cons_succ])
    refine wpAnyH_take (i := 12) (v := ?_) (take_at rfl) (by kernel_rfl) (by kernel_rfl) (by kernel_rfl) (fun _ _ _ h => h) (Or.inl ⟨by rfl, ?_⟩) (by assumption) ?_
    rotate_left
    · intro w' hSw; (try dsimp only at hSw); go_simp; (try with_reducible rfl)
    (try simp only [Act.put, List.setIfInBounds_toArray, List.set_cons_zero, List.set_cons_succ])
    refine wpAnyH_take (i := 14) (v := ?_) (take_at rfl) (by kernel_rfl) (by kernel_rfl) (by kernel_rfl) (fun _ _ _ h => h) (Or.inl ⟨by rfl, ?_⟩) (by assumption) ?_
    rotate_left
    · intro w' hSw; (try dsimp only at hSw); go_simp; (try with_reducible rfl)
    (try simp only [Act.put, List.setIfInBounds_toArray, List.set_cons_zero, List.set_cons_succ])
    refine wpAnyH_take (i := 16) (v := ?_) (take_at rfl) (by kernel_rfl) (by kernel_rfl) (by kernel_rfl) (fun _ _ _ h => h) (Or.inl ⟨by rfl, ?_⟩) (by assumption) ?_
    rotate_left
    · intro w' hSw; (try dsimp only at hSw); go_simp; (try with_reducible rfl)
    (try simp only [Act.put, List.setIfInBounds_toArray, List.set_cons_zero, List.set_cons_succ])
    refine wpAnyH_ready (rs := [13]) (by kernel_rfl) (by simp) ?_
    refine AllReadyH.cons (take_at rfl) (fun K hK => ?_) AllReadyH.nil
    go_simp
    refine (union_any ya yb Aa Ab ma ca mb cb _ (RT.out.step B.out) (RA.out.step B.out) (RB.out.step B.out) (by omega) (by omega)).mono ?_
    rintro e3 wn ⟨An, mn, cn, yn, qn, rfl, he, hn, hm, hs, hb⟩
    have HVn := Lib.hid (has_union (ya := ya) (yb := yb) (v := v) he hn)
    have Sn := Lib.hid hs
    have hmn : mn ≤ 100000 := by omega
    replace B := Lib.hid (B.out.step' hb)
    clear he hn hm hs hb
    (try go_wp2_with fail)
    refine hK.out _ _ ?_ (fun hHeld2 => ?_)
    · (try dsimp only); exact KS.out _ B.out
    clear hK K hHeld
    have hHeld := hHeld2
    clear hHeld2
    (try simp only [Act.put, List.setIfInBounds_toArray, List.set_cons_zero, List.set_cons_succ])
    refine wpAnyH_ready (rs := [15]) (by kernel_rfl) (by simp) ?_
    refine AllReadyH.cons (take_at rfl) (fun K hK => ?_) AllReadyH.nil
    go_simp
    have HC := has_any yn An mn cn v cv _ (RT.out.step B.out) Sn.out hmn (RV.out.step B.out)
    rw [HVn.out] at HC
    (try rw [← EX.out] at HC)
    (try rw [← EY.out] at HC)
    (try rw [← EO.out] at HC)
    (try simp only [Bool.and_true, Bool.and_false, Bool.true_and, Bool.false_and, Bool.or_true, Bool.or_false, Bool.true_or, Bool.false_or, Bool.not_true, Bool.not_false] at HC)
    refine HC.mono ?_
    clear HC
    rintro e3 wh ⟨rfl, hb⟩
    replace B := Lib.hid (B.out.step' hb)
    clear hb HVn Sn hmn
    (try go_wp2_with fail)
    refine hK.out _ _ ?_ (fun hHeld2 => ?_)
    · (try dsimp only); exact KS.out _ B.out
    clear hK K hHeld
    have hHeld := hHeld2
    clear hHeld2
    (try simp only [Act.put, List.setIfInBounds_toArray, List.set_cons_zero, List.set_cons_succ])
    refine wpAnyH_take (i := 17) (v := ?_) (take_at rfl) (by kernel_rfl) (by kernel_rfl) (by kernel_rfl) (fun _ _ _ h => h) (Or.inl ⟨by rfl, ?_⟩) (by assumption) ?_
    rotate_left
    · intro w' hSw; (try dsimp only at hSw); go_simp; (try with_reducible rfl)
    (try simp only [Act.put, List.setIfInBounds_toArray, List.set_cons_zero, List.set_cons_succ])
    refine wpAnyH_take (i := 18) (v := ?_) (take_at rfl) (by kernel_rfl) (by kernel_rfl) (by kernel_rfl) (fun _ _ _ h => h) (Or.inl ⟨by rfl, ?_⟩) (by assumption) ?_
    rotate_left
    · intro w' hSw; (try dsimp only at hSw); go_simp; (try with_reducible rfl)
    (try simp only [Act.put, List.setIfInBounds_toArray, List.set_cons_zero, List.set_cons_succ])
    refine wpAnyH_take (i := 19) (v := ?_) (take_at rfl) (by kernel_rfl) (by kernel_rfl) (by kernel_rfl) (fun _ _ _ h => h) (Or.inl ⟨by rfl, ?_⟩) (by assumption) ?_
    rotate_left
    · intro w' hSw; (try dsimp only at hSw); go_simp; (try with_reducible rfl)
    (try simp only [Act.put, List.setIfInBounds_toArray, List.set_cons_zero, List.set_cons_succ])
    refine wpAnyH_take (i := 20) (v := ?_) (take_at rfl) (by kernel_rfl) (by kernel_rfl) (by kernel_rfl) (fun _ _ _ h => h) (Or.inl ⟨by rfl, ?_⟩) (by assumption) ?_
    rotate_left
    · intro w' hSw; (try dsimp only at hSw); go_simp; (try with_reducible rfl)
    (try simp only [Act.put, List.setIfInBounds_toArray, List.set_cons_zero, List.set_cons_succ])
    refine wpAnyH_take (i := 21) (v := ?_) (take_at rfl) (by kernel_rfl) (by kernel_rfl) (by kernel_rfl) (fun _ _ _ h => h) (Or.inl ⟨by rfl, ?_⟩) (by assumption) ?_
    rotate_left
    · intro w' hSw; (try dsimp only at hSw); go_simp; (try with_reducible rfl)
    (try simp only [Act.put, List.setIfInBounds_toArray, List.set_cons_zero, List.set_cons_succ])
    refine wpAnyH_take (i := 22) (v := ?_) (take_at rfl) (by kernel_rfl) (by kernel_rfl) (by kernel_rfl) (fun _ _ _ h => h) (Or.inl ⟨by rfl, ?_⟩) (by assumption) ?_
    rotate_left
    · intro w' hSw; (try dsimp only at hSw); go_simp; (try with_reducible rfl)
    (try simp only [Act.put, List.setIfInBounds_toArray, List.set_cons_zero, List.set_cons_succ])
    refine wpAnyH_take (i := 23) (v := ?_) (take_at rfl) (by kernel_rfl) (by kernel_rfl) (by kernel_rfl) (fun _ _ _ h => h) (Or.inl ⟨by rfl, ?_⟩) (by assumption) ?_
    rotate_left
    · intro w' hSw; (try dsimp only at hSw); go_simp; (try with_reducible rfl)
    (try simp only [Act.put, List.setIfInBounds_toArray, List.set_cons_zero, List.set_cons_succ])
    refine wpAnyH_take (i := 25) (v := ?_) (take_at rfl) (by kernel_rfl) (by kernel_rfl) (by kernel_rfl) (fun _ _ _ h => h) (Or.inl ⟨by rfl, ?_⟩) (by assumption) ?_
    rotate_left
    · intro w' hSw; (try dsimp only at hSw); go_simp; (try with_reducible rfl)
    (try simp only [Act.put, List.setIfInBounds_toArray, List.set_cons_zero, List.set_cons_succ])
    refine wpAnyH_take (i := 27) (v := ?_) (take_at rfl) (by kernel_rfl) (by kernel_rfl) (by kernel_rfl) (fun _ _ _ h => h) (Or.inl ⟨by rfl, ?_⟩) (by assumption) ?_
    rotate_left
    · intro w' hSw; (try dsimp only at hSw); go_simp; (try with_reducible rfl)
    (try simp only [Act.put, List.setIfInBounds_toArray, List.set_cons_zero, List.set_cons_succ])
    refine wpAnyH_ready (rs := [24]) (by kernel_rfl) (by simp) ?_
    refine AllReadyH.cons (take_at rfl) (fun K hK => ?_) AllReadyH.nil
    go_simp
    refine (rest_any ya Aa ma ca _ (RT.out.step B.out) (RA.out.step B.out) (by omega)).mono ?_
    rintro e3 wn ⟨An, mn, cn, yn, qn, rfl, he, hn, hm, hs, hb⟩
    have HVn := Lib.hid (has_rest (ya := ya) (v := v) he hn)
    have Sn := Lib.hid hs
    have hmn : mn ≤ 100000 := by omega
    replace B := Lib.hid (B.out.step' hb)
    clear he hn hm hs hb
    (try go_wp2_with fail)
    refine hK.out _ _ ?_ (fun hHeld2 => ?_)
    · (try dsimp only); exact KS.out _ B.out
    clear hK K hHeld
    have hHeld := hHeld2
    clear hHeld2
    (try simp only [Act.put, List.setIfInBounds_toArray, List.set_cons_zero, List.set_cons_succ])
    refine wpAnyH_ready (rs := [26]) (by kernel_rfl) (by simp) ?_
    refine AllReadyH.cons (take_at rfl) (fun K hK => ?_) AllReadyH.nil
    go_simp
    have HC := has_any yn An mn cn v cv _ (RT.out.step B.out) Sn.out hmn (RV.out.step B.out)
    rw [HVn.out] at HC
    (try rw [← EX.out] at HC)
    (try rw [← EY.out] at HC)
    (try rw [← EO.out] at HC)
    (try simp only [Bool.and_true, Bool.and_false, Bool.true_and, Bool.false_and, Bool.or_true, Bool.or_false, Bool.true_or, Bool.false_or, Bool.not_true, Bool.not_false] at HC)
    refine HC.mono ?_
    clear HC
    rintro e3 wh ⟨rfl, hb⟩
    replace B := Lib.hid (B.out.step' hb)
    clear hb HVn Sn hmn
    (try go_wp2_with fail)
    refine hK.out _ _ ?_ (fun hHeld2 => ?_)
    · (try dsimp only); exact KS.out _ B.out
    clear hK K hHeld
    have hHeld := hHeld2
    clear hHeld2
    (try simp only [Act.put, List.setIfInBounds_toArray, List.set_cons_zero, List.set_cons_succ])
    refine wpAnyH_take (i := 28) (v := ?_) (take_at rfl) (by kernel_rfl) (by kernel_rfl) (by kernel_rfl) (fun _ _ _ h => h) (Or.inl ⟨by rfl, ?_⟩) (by assumption) ?_
    rotate_left
    · intro w' hSw; (try dsimp only at hSw); go_simp; (try with_reducible rfl)
    (try simp only [Act.put, List.setIfInBounds_toArray, List.set_cons_zero, List.set_cons_succ])
    refine wpAnyH_take (i := 29) (v := ?_) (take_at rfl) (by kernel_rfl) (by kernel_rfl) (by kernel_rfl) (fun _ _ _ h => h) (Or.inl ⟨by rfl, ?_⟩) (by assumption) ?_
    rotate_left
    · intro w' hSw; (try dsimp only at hSw); go_simp; (try with_reducible rfl)
    (try simp only [Act.put, List.setIfInBounds_toArray, List.set_cons_zero, List.set_cons_succ])
    refine wpAnyH_take (i := 30) (v := ?_) (take_at rfl) (by kernel_rfl) (by kernel_rfl) (by kernel_rfl) (fun _ _ _ h => h) (Or.inl ⟨by rfl, ?_⟩) (by assumption) ?_
    rotate_left
    · intro w' hSw; (try dsimp only at hSw); go_simp; (try with_reducible rfl)
    (try simp only [Act.put, List.setIfInBounds_toArray, List.set_cons_zero, List.set_cons_succ])
    refine wpAnyH_take (i := 31) (v := ?_) (take_at rfl) (by kernel_rfl) (by kernel_rfl) (by kernel_rfl) (fun _ _ _ h => h) (Or.inl ⟨by rfl, ?_⟩) (by assumption) ?_
    rotate_left
    · intro w' hSw; (try dsimp only at hSw); go_simp; (try with_reducible rfl)
    (try simp only [Act.put, List.setIfInBounds_toArray, List.set_cons_zero, List.set_cons_succ])
    refine wpAnyH_take (i := 32) (v := ?_) (take_at rfl) (by kernel_rfl) (by kernel_rfl) (by kernel_rfl) (fun _ _ _ h => h) (Or.inl ⟨by rfl, ?_⟩) (by assumption) ?_
    rotate_left
    · intro w' hSw; (try dsimp only at hSw); go_simp; (try with_reducible rfl)
    (try simp only [Act.put, List.setIfInBounds_toArray, List.set_cons_zero, List.set_cons_succ])
    refine wpAnyH_take (i := 33) (v := ?_) (take_at rfl) (by kernel_rfl) (by kernel_rfl) (by kernel_rfl) (fun _ _ _ h => h) (Or.inl ⟨by rfl, ?_⟩) (by assumption) ?_
    rotate_left
    · intro w' hSw; (try dsimp only at hSw); go_simp; (try with_reducible rfl)
    (try simp only [Act.put, List.setIfInBounds_toArray, List.set_cons_zero, List.set_cons_succ])
    refine wpAnyH_done (by kernel_rfl) ?_ _
    refine NoPanic.normal ?_
    clear KS RT RA RB RV hHeld
    replace I := Lib.hid (I.out.step B.out)
    clear B
    go_upto_region 7 with fail
    obtain ⟨x0, x1, x2, x3, x4⟩ := VAt.of_blk I.out.b
    have B := Lib.hid ((Below.refl wh.heap.size wh).drewN 1)
    have RT := Lib.hid (HT.out.step I.out.bel)
    have RA := Lib.hid (Sa.out.step I.out.bel)
    have RB := Lib.hid (Sb.out.step I.out.bel)
    have RV := Lib.hid (Sv.out.step I.out.bel)
    have KS : Hid (∀ w', Below wh.heap.size wh w' → w'.cell? ⟨w.heap.size, 0, none⟩ = some (.int .i64 cv.k) ∧ w'.cell? ⟨w.heap.size, 1, none⟩ = some (.int .i64 cv.n) ∧ w'.cell? ⟨w.heap.size, 2, none⟩ = some (.string cv.t) ∧ w'.cell? ⟨w.heap.size, 3, none⟩ = some (.slice cv.LA cv.ln cv.lc) ∧ w'.cell? ⟨w.heap.size, 4, none⟩ = some (.slice cv.DA cv.dn cv.dc)) := fun w' hb => ⟨(hb.cell (p := ⟨w.heap.size, 0, none⟩) I.out.b.lt).trans x0, (hb.cell (p := ⟨w.heap.size, 1, none⟩) I.out.b.lt).trans x1, (hb.cell (p := ⟨w.heap.size, 2, none⟩) I.out.b.lt).trans x2, (hb.cell (p := ⟨w.heap.size, 3, none⟩) I.out.b.lt).trans x3, (hb.cell (p := ⟨w.heap.size, 4, none⟩) I.out.b.lt).trans x4⟩
    clear x0 x1 x2 x3 x4
    refine wp_region_noPanic ?_
    refine wp_region_held_drew (S := (fun w' => w'.cell? ⟨w.heap.size, 0, none⟩ = some (.int .i64 cv.k) ∧ w'.cell? ⟨w.heap.size, 1, none⟩ = some (.int .i64 cv.n) ∧ w'.cell? ⟨w.heap.size, 2, none⟩ = some (.string cv.t) ∧ w'.cell? ⟨w.heap.size, 3, none⟩ = some (.slice cv.LA cv.ln cv.lc) ∧ w'.cell? ⟨w.heap.size, 4, none⟩ = some (.slice cv.DA cv.dn cv.dc))) (by kernel_rfl) ?_ (fun hHeld => ?_)
    · (try dsimp only); exact KS.out _ B.out
    refine wpAnyH_take (i := 0) (v := ?_) (take_at rfl) (by kernel_rfl) (by kernel_rfl) (by kernel_rfl) (fun _ _ _ h => h) (Or.inl ⟨by rfl, ?_⟩) (by assumption) ?_
    rotate_left
    · intro w' hSw; (try dsimp only at hSw); go_simp; (try with_reducible rfl)
    (try simp only [Act.put, List.setIfInBounds_toArray, List.set_cons_zero, List.set_cons_succ])
    refine wpAnyH_take (i := 2) (v := ?_) (take_at rfl) (by kernel_rfl) (by kernel_rfl) (by kernel_rfl) (fun _ _ _ h => h) (Or.inl ⟨by rfl, ?_⟩) (by assumption) ?_
    rotate_left
    · intro w' hSw; (try dsimp only at hSw); go_simp; (try with_reducible rfl)
    (try simp only [Act.put, List.setIfInBounds_toArray, List.set_cons_zero, List.set_cons_succ])
    refine wpAnyH_take (i := 4) (v := ?_) (take_at rfl) (by kernel_rfl) (by kernel_rfl) (by kernel_rfl) (fun _ _ _ h => h) (Or.inl ⟨by rfl, ?_⟩) (by assumption) ?_
    rotate_left
    · intro w' hSw; (try dsimp only at hSw); go_simp; (try with_reducible rfl)
    (try simp only [Act.put, List.setIfInBounds_toArray, List.set_cons_zero, List.set_cons_succ])
    refine wpAnyH_ready (rs := [1]) (by kernel_rfl) (by simp) ?_
    refine AllReadyH.cons (take_at rfl) (fun K hK => ?_) AllReadyH.nil
    go_simp
    refine (normal_any ya Aa ma ca _ (RT.out.step B.out) (RA.out.step B.out) (by omega)).mono ?_
    rintro e3 wn ⟨An, mn, cn, yn, qn, rfl, he, hn, hm, hs, hb⟩
    have HVn := Lib.hid (has_normal (ya := ya) (v := v) he hn)
    have Sn := Lib.hid hs
    have hmn : mn ≤ 100000 := by omega
    replace B := Lib.hid (B.out.step' hb)
    clear he hn hm hs hb
    (try go_wp2_with fail)
    refine hK.out _ _ ?_ (fun hHeld2 => ?_)
    · (try dsimp only); exact KS.out _ B.out
    clear hK K hHeld
    have hHeld := hHeld2
    clear hHeld2
    (try simp only [Act.put, List.setIfInBounds_toArray, List.set_cons_zero, List.set_cons_succ])
    refine wpAnyH_ready (rs := [3]) (by kernel_rfl) (by simp) ?_
    refine AllReadyH.cons (take_at rfl) (fun K hK => ?_) AllReadyH.nil
    go_simp
    have HC := has_any yn An mn cn v cv _ (RT.out.step B.out) Sn.out hmn (RV.out.step B.out)
    rw [HVn.out] at HC
    (try rw [← EX.out] at HC)
    (try rw [← EY.out] at HC)
    (try rw [← EO.out] at HC)
    (try simp only [Bool.and_true, Bool.and_false, Bool.true_and, Bool.false_and, Bool.or_true, Bool.or_false, Bool.true_or, Bool.false_or, Bool.not_true, Bool.not_false] at HC)
    refine HC.mono ?_
    clear HC
    rintro e3 wh ⟨rfl, hb⟩
    replace B := Lib.hid (B.out.step' hb)
    clear hb HVn Sn hmn
    (try go_wp2_with fail)
    refine hK.out _ _ ?_ (fun hHeld2 => ?_)
    · (try dsimp only); exact KS.out _ B.out
    clear hK K hHeld
    have hHeld := hHeld2
    clear hHeld2
    (try simp only [Act.put, List.setIfInBounds_toArray, List.set_cons_zero, List.set_cons_succ])
    refine wpAnyH_take (i := 5) (v := ?_) (take_at rfl) (by kernel_rfl) (by kernel_rfl) (by kernel_rfl) (fun _ _ _ h => h) (Or.inl ⟨by rfl, ?_⟩) (by assumption) ?_
    rotate_left
    · intro w' hSw; (try dsimp only at hSw); go_simp; (try with_reducible rfl)
    (try simp only [Act.put, List.setIfInBounds_toArray, List.set_cons_zero, List.set_cons_succ])
    refine wpAnyH_take (i := 6) (v := ?_) (take_at rfl) (by kernel_rfl) (by kernel_rfl) (by kernel_rfl) (fun _ _ _ h => h) (Or.inl ⟨by rfl, ?_⟩) (by assumption) ?_
    rotate_left
    · intro w' hSw; (try dsimp only at hSw); go_simp; (try with_reducible rfl)
    (try simp only [Act.put, List.setIfInBounds_toArray, List.set_cons_zero, List.set_cons_succ])
    refine wpAnyH_take (i := 8) (v := ?_) (take_at rfl) (by kernel_rfl) (by kernel_rfl) (by kernel_rfl) (fun _ _ _ h => h) (Or.inl ⟨by rfl, ?_⟩) (by assumption) ?_
    rotate_left
    · intro w' hSw; (try dsimp only at hSw); go_simp; (try with_reducible rfl)
    (try simp only [Act.put, List.setIfInBounds_toArray, List.set_cons_zero, List.set_cons_succ])
    refine wpAnyH_take (i := 10) (v := ?_) (take_at rfl) (by kernel_rfl) (by kernel_rfl) (by kernel_rfl) (fun _ _ _ h => h) (Or.inl ⟨by rfl, ?_⟩) (by assumption) ?_
    rotate_left
    · intro w' hSw; (try dsimp only at hSw); go_simp; (try with_reducible rfl)
    (try simp only [Act.put, List.setIfInBounds_toArray, List.set_cons_zero, List.set_cons_succ])
    refine wpAnyH_ready (rs := [7]) (by kernel_rfl) (by simp) ?_
    refine AllReadyH.cons (take_at rfl) (fun K hK => ?_) AllReadyH.nil
    go_simp
    refine (all_any _).mono ?_
    rintro e3 wn ⟨An, mn, cn, yn, qn, rfl, he, hn, hm, hs, hb⟩
    have HVn := Lib.hid (has_all (v := v) he hn)
    have Sn := Lib.hid hs
    have hmn : mn ≤ 100000 := by omega
    replace B := Lib.hid (B.out.step' hb)
    clear he hn hm hs hb
    (try go_wp2_with fail)
    refine hK.out _ _ ?_ (fun hHeld2 => ?_)
    · (try dsimp only); exact KS.out _ B.out
    clear hK K hHeld
    have hHeld := hHeld2
    clear hHeld2
    (try simp only [Act.put, List.setIfInBounds_toArray, List.set_cons_zero, List.set_cons_succ])
    refine wpAnyH_ready (rs := [9]) (by kernel_rfl) (by simp) ?_
    refine AllReadyH.cons (take_at rfl) (fun K hK => ?_) AllReadyH.nil
    go_simp
    have HC := has_any yn An mn cn v cv _ (RT.out.step B.out) Sn.out hmn (RV.out.step B.out)
    rw [HVn.out] at HC
    (try rw [← EX.out] at HC)
    (try rw [← EY.out] at HC)
    (try rw [← EO.out] at HC)
    (try simp only [Bool.and_true, Bool.and_false, Bool.true_and, Bool.false_and, Bool.or_true, Bool.or_false, Bool.true_or, Bool.false_or, Bool.not_true, Bool.not_false] at HC)
    refine HC.mono ?_
    clear HC
    rintro e3 wh ⟨rfl, hb⟩
    replace B := Lib.hid (B.out.step' hb)
    clear hb HVn Sn hmn
    (try go_wp2_with fail)
    refine hK.out _ _ ?_ (fun hHeld2 => ?_)
    · (try dsimp only); exact KS.out _ B.out
    clear hK K hHeld
    have hHeld := hHeld2
    clear hHeld2
    (try simp only [Act.put, List.setIfInBounds_toArray, List.set_cons_zero, List.set_cons_succ])
    refine wpAnyH_take (i := 11) (v := ?_) (take_at rfl) (by kernel_rfl) (by kernel_rfl) (by kernel_rfl) (fun _ _ _ h => h) (Or.inl ⟨by rfl, ?_⟩) (by assumption) ?_
    rotate_left
    · intro w' hSw; (try dsimp only at hSw); go_simp; (try with_reducible rfl)
    (try simp only [Act.put, List.setIfInBounds_toArray, List.set_cons_zero, List.set_cons_succ])
    refine wpAnyH_take (i := 12) (v := ?_) (take_at rfl) (by kernel_rfl) (by kernel_rfl) (by kernel_rfl) (fun _ _ _ h => h) (Or.inl ⟨by rfl, ?_⟩) (by assumption) ?_
    rotate_left
    · intro w' hSw; (try dsimp only at hSw); go_simp; (try with_reducible rfl)
    (try simp only [Act.put, List.setIfInBounds_toArray, List.set_cons_zero, List.set_cons_succ])
    refine wpAnyH_take (i := 13) (v := ?_) (take_at rfl) (by kernel_rfl) (by kernel_rfl) (by kernel_rfl) (fun _ _ _ h => h) (Or.inl ⟨by rfl, ?_⟩) (by assumption) ?_
    rotate_left
    · intro w' hSw; (try dsimp only at hSw); go_simp; (try with_reducible rfl)
    (try simp only [Act.put, List.setIfInBounds_toArray, List.set_cons_zero, List.set_cons_succ])
    refine wpAnyH_take (i := 14) (v := ?_) (take_at rfl) (by kernel_rfl) (by kernel_rfl) (by kernel_rfl) (fun _ _ _ h => h) (Or.inl ⟨by rfl, ?_⟩) (by assumption) ?_
    rotate_left
    · intro w' hSw; (try dsimp only at hSw); go_simp; (try with_reducible rfl)
    (try simp only [Act.put, List.setIfInBounds_toArray, List.set_cons_zero, List.set_cons_succ])
    refine wpAnyH_take (i := 17) (v := ?_) (take_at rfl) (by kernel_rfl) (by kernel_rfl) (by kernel_rfl) (fun _ _ _ h => h) (Or.inl ⟨by rfl, ?_⟩) (by assumption) ?_
    rotate_left
    · intro w' hSw; (try dsimp only at hSw); go_simp; (try with_reducible rfl)
    (try simp only [Act.put, List.setIfInBounds_toArray, List.set_cons_zero, List.set_cons_succ])
    refine wpAnyH_take (i := 19) (v := ?_) (take_at rfl) (by kernel_rfl) (by kernel_rfl) (by kernel_rfl) (fun _ _ _ h => h) (Or.inl ⟨by rfl, ?_⟩) (by assumption) ?_
    rotate_left
    · intro w' hSw; (try dsimp only at hSw); go_simp; (try with_reducible rfl)
    (try simp only [Act.put, List.setIfInBounds_toArray, List.set_cons_zero, List.set_cons_succ])
    refine wpAnyH_ready (rs := [15]) (by kernel_rfl) (by simp) ?_
    refine AllReadyH.cons (take_at rfl) (fun K hK => ?_) AllReadyH.nil
    go_simp
    refine hK.out _ _ ?_ (fun hHeld2 => ?_)
    · (try dsimp only); exact KS.out _ (B.out.alloc B.out.size _)
    have SP : Hid (SL (fun _ => True) _ (some ⟨_, 0, none⟩) 1 1 [(cv, v)]) := Lib.hid (sl_list (Blk.new _ 30 (flat recV [(cv, v)]).toArray) rfl (by decide) (by intro p hp; simp only [List.mem_cons, List.not_mem_nil, or_false] at hp; subst hp; exact RV.out.step (B.out.alloc B.out.size _)))
    replace B := Lib.hid (B.out.alloc B.out.size (Obj.cells (flat recV [(cv, v)]).toArray 30))
    clear hK K hHeld
    have hHeld := hHeld2
    clear hHeld2
    (try simp only [Act.put, List.setIfInBounds_toArray, List.set_cons_zero, List.set_cons_succ])
    refine wpAnyH_ready (rs := [16]) (by kernel_rfl) (by simp) ?_
    refine AllReadyH.cons (take_at rfl) (fun K hK => ?_) AllReadyH.nil
    go_simp
    refine (points_any [(cv, v)] _ 1 1 _ (RT.out.step B.out) SP.out (by omega)).mono ?_
    rintro e3 wn ⟨An, mn, cn, yn, qn, rfl, he, hn, hm, hs, hb⟩
    have HVn := Lib.hid (has_points (cv := cv) (v := v) he hn)
    have Sn := Lib.hid hs
    have hmn : mn ≤ 100000 := by omega
    replace B := Lib.hid (B.out.step' hb)
    clear he hn hm hs hb
    (try go_wp2_with fail)
    refine hK.out _ _ ?_ (fun hHeld2 => ?_)
    · (try dsimp only); exact KS.out _ B.out
    clear hK K hHeld
    have hHeld := hHeld2
    clear hHeld2
    (try simp only [Act.put, List.setIfInBounds_toArray, List.set_cons_zero, List.set_cons_succ])
    refine wpAnyH_ready (rs := [18]) (by kernel_rfl) (by simp) ?_
    refine AllReadyH.cons (take_at rfl) (fun K hK => ?_) AllReadyH.nil
    go_simp
    have HC := has_any yn An mn cn v cv _ (RT.out.step B.out) Sn.out hmn (RV.out.step B.out)
    rw [HVn.out] at HC
    (try rw [← EX.out] at HC)
    (try rw [← EY.out] at HC)
    (try rw [← EO.out] at HC)
    (try simp only [Bool.and_true, Bool.and_false, Bool.true_and, Bool.false_and, Bool.or_true, Bool.or_false, Bool.true_or, Bool.false_or, Bool.not_true, Bool.not_false] at HC)
    refine HC.mono ?_
    clear HC
    rintro e3 wh ⟨rfl, hb⟩
    replace B := Lib.hid (B.out.step' hb)
    clear hb HVn Sn hmn
    (try go_wp2_with fail)
    refine hK.out _ _ ?_ (fun hHeld2 => ?_)
    · (try dsimp only); exact KS.out _ B.out
    clear hK K hHeld
    have hHeld := hHeld2
    clear hHeld2
    (try simp only [Act.put, List.setIfInBounds_toArray, List.set_cons_zero, List.set_cons_succ])
    refine wpAnyH_take (i := 20) (v := ?_) (take_at rfl) (by kernel_rfl) (by kernel_rfl) (by kernel_rfl) (fun _ _ _ h => h) (Or.inl ⟨by rfl, ?_⟩) (by assumption) ?_
    rotate_left
    · intro w' hSw; (try dsimp only at hSw); go_simp; (try with_reducible rfl)
    (try simp only [Act.put, List.setIfInBounds_toArray, List.set_cons_zero, List.set_cons_succ])
    refine wpAnyH_take (i := 21) (v := ?_) (take_at rfl) (by kernel_rfl) (by kernel_rfl) (by kernel_rfl) (fun _ _ _ h => h) (Or.inl ⟨by rfl, ?_⟩) (by assumption) ?_
    rotate_left
    · intro w' hSw; (try dsimp only at hSw); go_simp; (try with_reducible rfl)
    (try simp only [Act.put, List.setIfInBounds_toArray, List.set_cons_zero, List.set_cons_succ])
    refine wpAnyH_take (i := 22) (v := ?_) (take_at rfl) (by kernel_rfl) (by kernel_rfl) (by kernel_rfl) (fun _ _ _ h => h) (Or.inl ⟨by rfl, ?_⟩) (by assumption) ?_
    rotate_left
    · intro w' hSw; (try dsimp only at hSw); go_simp; (try with_reducible rfl)
    (try simp only [Act.put, List.setIfInBounds_toArray, List.set_cons_zero, List.set_cons_succ])
    refine wpAnyH_take (i := 23) (v := ?_) (take_at rfl) (by kernel_rfl) (by kernel_rfl) (by kernel_rfl) (fun _ _ _ h => h) (Or.inl ⟨by rfl, ?_⟩) (by assumption) ?_
    rotate_left
    · intro w' hSw; (try dsimp only at hSw); go_simp; (try with_reducible rfl)
    (try simp only [Act.put, List.setIfInBounds_toArray, List.set_cons_zero, List.set_cons_succ])
    refine wpAnyH_take (i := 24) (v := ?_) (take_at rfl) (by kernel_rfl) (by kernel_rfl) (by kernel_rfl) (fun _ _ _ h => h) (Or.inl ⟨by rfl, ?_⟩) (by assumption) ?_
    rotate_left
    · intro w' hSw; (try dsimp only at hSw); go_simp; (try with_reducible rfl)
    (try simp only [Act.put, List.setIfInBounds_toArray, List.set_cons_zero, List.set_cons_succ])
    refine wpAnyH_take (i := 25) (v := undef) (take_at rfl) (by kernel_rfl) (by kernel_rfl) (by kernel_rfl) (fun _ _ _ h => h) (Or.inr ⟨by rfl, rfl⟩) (by assumption) ?_
    (try simp only [Act.put, List.setIfInBounds_toArray, List.set_cons_zero, List.set_cons_succ])
    refine wpAnyH_take (i := 26) (v := undef) (take_at rfl) (by kernel_rfl) (by kernel_rfl) (by kernel_rfl) (fun _ _ _ h => h) (Or.inr ⟨by rfl, rfl⟩) (by assumption) ?_
    (try simp only [Act.put, List.setIfInBounds_toArray, List.set_cons_zero, List.set_cons_succ])
    refine wpAnyH_take (i := 27) (v := ?_) (take_at rfl) (by kernel_rfl) (by kernel_rfl) (by kernel_rfl) (fun _ _ _ h => h) (Or.inl ⟨by rfl, ?_⟩) (by assumption) ?_
    rotate_left
    · intro w' hSw; (try dsimp only at hSw); go_simp; (try with_reducible rfl)
    (try simp only [Act.put, List.setIfInBounds_toArray, List.set_cons_zero, List.set_cons_succ])
    refine wpAnyH_take (i := 28) (v := ?_) (take_at rfl) (by kernel_rfl) (by kernel_rfl) (by kernel_rfl) (fun _ _ _ h => h) (Or.inl ⟨by rfl, ?_⟩) (by assumption) ?_
    rotate_left
    · intro w' hSw; (try dsimp only at hSw); go_simp; (try with_reducible rfl)
    (try simp only [Act.put, List.setIfInBounds_toArray, List.set_cons_zero, List.set_cons_succ])
    refine wpAnyH_take (i := 29) (v := ?_) (take_at rfl) (by kernel_rfl) (by kernel_rfl) (by kernel_rfl) (fun _ _ _ h => h) (Or.inl ⟨by rfl, ?_⟩) (by assumption) ?_
    rotate_left
    · intro w' hSw; (try dsimp only at hSw); go_simp; (try with_reducible rfl)
    (try simp only [Act.put, List.setIfInBounds_toArray, List.set_cons_zero, List.set_cons_succ])
    refine wpAnyH_ready (rs := [30]) (by kernel_rfl) (by simp) ?_
    refine AllReadyH.cons (take_at rfl) (fun K hK => ?_) AllReadyH.nil
    go_simp
    refine (awake24_any _ (RT.out.step B.out)).mono ?_
    rintro e3 wk ⟨rfl, hb⟩
    replace B := Lib.hid (B.out.step' hb)
    clear hb
    (try go_wp2_with fail)
    refine hK.out _ _ ?_ (fun hHeld2 => ?_)
    · (try dsimp only); exact KS.out _ B.out
    clear hK K hHeld
    have hHeld := hHeld2
    clear hHeld2
    (try simp only [Act.put, List.setIfInBounds_toArray, List.set_cons_zero, List.set_cons_succ])
    refine wpAnyH_take (i := 31) (v := ?_) (take_at rfl) (by kernel_rfl) (by kernel_rfl) (by kernel_rfl) (fun _ _ _ h => h) (Or.inl ⟨by rfl, ?_⟩) (by assumption) ?_
    rotate_left
    · intro w' hSw; (try dsimp only at hSw); go_simp; (try with_reducible rfl)
    (try simp only [Act.put, List.setIfInBounds_toArray, List.set_cons_zero, List.set_cons_succ])
    refine wpAnyH_take (i := 32) (v := ?_) (take_at rfl) (by kernel_rfl) (by kernel_rfl) (by kernel_rfl) (fun _ _ _ h => h) (Or.inl ⟨by rfl, ?_⟩) (by assumption) ?_
    rotate_left
    · intro w' hSw; (try dsimp only at hSw); go_simp; (try with_reducible rfl)
    (try simp only [Act.put, List.setIfInBounds_toArray, List.set_cons_zero, List.set_cons_succ])
    refine wpAnyH_done (by kernel_rfl) ?_ _
    refine NoPanic.normal ?_
    clear KS RT RA RB RV hHeld
    replace I := Lib.hid (I.out.step B.out)
    clear B
    go_wp2_with fail
    go_ret
    exact ⟨rfl, I.out.bel⟩
  · obtain ⟨x0, x1, x2, x3, x4⟩ := VAt.of_blk I.out.b
    have B := Lib.hid ((Below.refl w5.heap.size w5).drewN 1)
    have RT := Lib.hid (HT.out.step I.out.bel)
    have RA := Lib.hid (Sa.out.step I.out.bel)
    have RB := Lib.hid (Sb.out.step I.out.bel)
    have RV := Lib.hid (Sv.out.step I.out.bel)
    have KS : Hid (∀ w', Below w5.heap.size w5 w' → w'.cell? ⟨w.heap.size, 0, none⟩ = some (.int .i64 cv.k) ∧ w'.cell? ⟨w.heap.size, 1, none⟩ = some (.int .i64 cv.n) ∧ w'.cell? ⟨w.heap.size, 2, none⟩ = some (.string cv.t) ∧ w'.cell? ⟨w.heap.size, 3, none⟩ = some (.slice cv.LA cv.ln cv.lc) ∧ w'.cell? ⟨w.heap.size, 4, none⟩ = some (.slice cv.DA cv.dn cv.dc)) := fun w' hb => ⟨(hb.cell (p := ⟨w.heap.size, 0, none⟩) I.out.b.lt).trans x0, (hb.cell (p := ⟨w.heap.size, 1, none⟩) I.out.b.lt).trans x1, (hb.cell (p := ⟨w.heap.size, 2, none⟩) I.out.b.lt).trans x2, (hb.cell (p := ⟨w.heap.size, 3, none⟩) I.out.b.lt).trans x3, (hb.cell (p := ⟨w.heap.size, 4, none⟩) I.out.b.lt).trans x4⟩
    clear x0 x1 x2 x3 x4
    refine wp_region_noPanic ?_
    refine wp_region_held_drew (S := (fun w' => w'.cell? ⟨w.heap.size, 0, none⟩ = some (.int .i64 cv.k) ∧ w'.cell? ⟨w.heap.size, 1, none⟩ = some (.int .i64 cv.n) ∧ w'.cell? ⟨w.heap.size, 2, none⟩ = some (.string cv.t) ∧ w'.cell? ⟨w.heap.size, 3, none⟩ = some (.slice cv.LA cv.ln cv.lc) ∧ w'.cell? ⟨w.heap.size, 4, none⟩ = some (.slice cv.DA cv.dn cv.dc))) (by kernel_rfl) ?_ (fun hHeld => ?_)
    · (try dsimp only); exact KS.out _ B.out
    refine wpAnyH_take (i := 0) (v := ?_) (take_at rfl) (by kernel_rfl) (by kernel_rfl) (by kernel_rfl) (fun _ _ _ h => h) (Or.inl ⟨by rfl, ?_⟩) (by assumption) ?_
    rotate_left
    · intro w' hSw; (try dsimp only at hSw); go_simp; (try with_reducible rfl)
    (try simp only [Act.put, List.setIfInBounds_toArray, List.set_cons_zero, List.set_cons_succ])
    refine wpAnyH_take (i := 1) (v := ?_) (take_at rfl) (by kernel_rfl) (by kernel_rfl) (by kernel_rfl) (fun _ _ _ h => h) (Or.inl ⟨by rfl, ?_⟩) (by assumption) ?_
    rotate_left
    · intro w' hSw; (try dsimp only at hSw); go_simp; (try with_reducible rfl)
    (try simp only [Act.put, List.setIfInBounds_toArray, List.set_cons_zero, List.set_cons_succ])
    refine wpAnyH_take (i := 3) (v := ?_) (take_at rfl) (by kernel_rfl) (by kernel_rfl) (by kernel_rfl) (fun _ _ _ h => h) (Or.inl ⟨by rfl, ?_⟩) (by assumption) ?_
    rotate_left
    · intro w' hSw; (try dsimp only at hSw); go_simp; (try with_reducible rfl)
    (try simp only [Act.put, List.setIfInBounds_toArray, List.set_cons_zero, List.set_cons_succ])
    refine wpAnyH_take (i := 5) (v := ?_) (take_at rfl) (by kernel_rfl) (by kernel_rfl) (by kernel_rfl) (fun _ _ _ h => h) (Or.inl ⟨by rfl, ?_⟩) (by assumption) ?_
    rotate_left
    · intro w' hSw; (try dsimp only at hSw); go_simp; (try with_reducible rfl)
    (try simp only [Act.put, List.setIfInBounds_toArray, List.set_cons_zero, List.set_cons_succ])
    refine wpAnyH_ready (rs := [2]) (by kernel_rfl) (by simp) ?_
    refine AllReadyH.cons (take_at rfl) (fun K hK => ?_) AllReadyH.nil
    go_simp
    refine (meet_any ya yb Aa Ab ma ca mb cb _ (RT.out.step B.out) (RA.out.step B.out) (RB.out.step B.out) (by omega) (by omega)).mono ?_
    rintro e3 wn ⟨An, mn, cn, yn, qn, rfl, he, hn, hm, hs, hb⟩
    have HVn := Lib.hid (has_meet (ya := ya) (yb := yb) (v := v) he hn)
    have Sn := Lib.hid hs
    have hmn : mn ≤ 100000 := by omega
    replace B := Lib.hid (B.out.step' hb)
    clear he hn hm hs hb
    (try go_wp2_with fail)
    refine hK.out _ _ ?_ (fun hHeld2 => ?_)
    · (try dsimp only); exact KS.out _ B.out
    clear hK K hHeld
    have hHeld := hHeld2
    clear hHeld2
    (try simp only [Act.put, List.setIfInBounds_toArray, List.set_cons_zero, List.set_cons_succ])
    refine wpAnyH_ready (rs := [4]) (by kernel_rfl) (by simp) ?_
    refine AllReadyH.cons (take_at rfl) (fun K hK => ?_) AllReadyH.nil
    go_simp
    have HC := has_any yn An mn cn v cv _ (RT.out.step B.out) Sn.out hmn (RV.out.step B.out)
    rw [HVn.out] at HC
    (try rw [← EX.out] at HC)
    (try rw [← EY.out] at HC)
    (try rw [← EO.out] at HC)
    (try simp only [Bool.and_true, Bool.and_false, Bool.true_and, Bool.false_and, Bool.or_true, Bool.or_false, Bool.true_or, Bool.false_or, Bool.not_true, Bool.not_false] at HC)
    refine HC.mono ?_
    clear HC
    rintro e3 wh ⟨rfl, hb⟩
    replace B := Lib.hid (B.out.step' hb)
    clear hb HVn Sn hmn
    (try go_wp2_with fail)
    refine hK.out _ _ ?_ (fun hHeld2 => ?_)
    · (try dsimp only); exact KS.out _ B.out
    clear hK K hHeld
    have hHeld := hHeld2
    clear hHeld2
    (try simp only [Act.put, List.setIfInBounds_toArray, List.set_cons_zero, List.set_cons_succ])
    refine wpAnyH_take (i := 6) (v := ?_) (take_at rfl) (by kernel_rfl) (by kernel_rfl) (by kernel_rfl) (fun _ _ _ h => h) (Or.inl ⟨by rfl, ?_⟩) (by assumption) ?_
    rotate_left
    · intro w' hSw; (try dsimp only at hSw); go_simp; (try with_reducible rfl)
    (try simp only [Act.put, List.setIfInBounds_toArray, List.set_cons_zero, List.set_cons_succ])
    refine wpAnyH_take (i := 7) (v := undef) (take_at rfl) (by kernel_rfl) (by kernel_rfl) (by kernel_rfl) (fun _ _ _ h => h) (Or.inr ⟨by rfl, rfl⟩) (by assumption) ?_
    (try simp only [Act.put, List.setIfInBounds_toArray, List.set_cons_zero, List.set_cons_succ])
    refine wpAnyH_take (i := 8) (v := ?_) (take_at rfl) (by kernel_rfl) (by kernel_rfl) (by kernel_rfl) (fun _ _ _ h => h) (Or.inl ⟨by rfl, ?_⟩) (by assumption) ?_
    rotate_left
    · intro w' hSw; (try dsimp only at hSw); go_simp; (try with_reducible rfl)
    (try simp only [Act.put, List.setIfInBounds_toArray, List.set_cons_zero, List.set_cons_succ])
    refine wpAnyH_take (i := 9) (v := ?_) (take_at rfl) (by kernel_rfl) (by kernel_rfl) (by kernel_rfl) (fun _ _ _ h => h) (Or.inl ⟨by rfl, ?_⟩) (by assumption) ?_
    rotate_left
    · intro w' hSw; (try dsimp only at hSw); go_simp; (try with_reducible rfl)
    (try simp only [Act.put, List.setIfInBounds_toArray, List.set_cons_zero, List.set_cons_succ])
    refine wpAnyH_take (i := 10) (v := ?_) (take_at rfl) (by kernel_rfl) (by kernel_rfl) (by kernel_rfl) (fun _ _ _ h => h) (Or.inl ⟨by rfl, ?_⟩) (by assumption) ?_
    rotate_left
    · intro w' hSw; (try dsimp only at hSw); go_simp; (try with_reducible rfl)
    (try simp only [Act.put, List.setIfInBounds_toArray, List.set_cons_zero, List.set_cons_succ])
    refine wpAnyH_take (i := 11) (v := ?_) (take_at rfl) (by kernel_rfl) (by kernel_rfl) (by kernel_rfl) (fun _ _ _ h => h) (Or.inl ⟨by rfl, ?_⟩) (by assumption) ?_
    rotate_left
    · intro w' hSw; (try dsimp only at hSw); go_simp; (try with_reducible rfl)
    (try simp only [Act.put, List.setIfInBounds_toArray, List.set_cons_zero, List.set_cons_succ])
    refine wpAnyH_take (i := 12) (v := ?_) (take_at rfl) (by kernel_rfl) (by kernel_rfl) (by kernel_rfl) (fun _ _ _ h => h) (Or.inl ⟨by rfl, ?_⟩) (by assumption) ?_
    rotate_left
    · intro w' hSw; (try dsimp only at hSw); go_simp; (try with_reducible rfl)
    (try simp only [Act.put, List.setIfInBounds_toArray, List.set_cons_zero, List.set_cons_succ])
    refine wpAnyH_take (i := 14) (v := ?_) (take_at rfl) (by kernel_rfl) (by kernel_rfl) (by kernel_rfl) (fun _ _ _ h => h) (Or.inl ⟨by rfl, ?_⟩) (by assumption) ?_
    rotate_left
    · intro w' hSw; (try dsimp only at hSw); go_simp; (try with_reducible rfl)
    (try simp only [Act.put, List.setIfInBounds_toArray, List.set_cons_zero, List.set_cons_succ])
    refine wpAnyH_take (i := 16) (v := ?_) (take_at rfl) (by kernel_rfl) (by kernel_rfl) (by kernel_rfl) (fun _ _ _ h => h) (Or.inl ⟨by rfl, ?_⟩) (by assumption) ?_
    rotate_left
    · intro w' hSw; (try dsimp only at hSw); go_simp; (try with_reducible rfl)
    (try simp only [Act.put, List.setIfInBounds_toArray, List.set_cons_zero, List.set_cons_succ])
    refine wpAnyH_ready (rs := [13]) (by kernel_rfl) (by simp) ?_
    refine AllReadyH.cons (take_at rfl) (fun K hK => ?_) AllReadyH.nil
    go_simp
    refine (union_any ya yb Aa Ab ma ca mb cb _ (RT.out.step B.out) (RA.out.step B.out) (RB.out.step B.out) (by omega) (by omega)).mono ?_
    rintro e3 wn ⟨An, mn, cn, yn, qn, rfl, he, hn, hm, hs, hb⟩
    have HVn := Lib.hid (has_union (ya := ya) (yb := yb) (v := v) he hn)
    have Sn := Lib.hid hs
    have hmn : mn ≤ 100000 := by omega
    replace B := Lib.hid (B.out.step' hb)
    clear he hn hm hs hb
    (try go_wp2_with fail)
    refine hK.out _ _ ?_ (fun hHeld2 => ?_)
    · (try dsimp only); exact KS.out _ B.out
    clear hK K hHeld
    have hHeld := hHeld2
    clear hHeld2
    (try simp only [Act.put, List.setIfInBounds_toArray, List.set_cons_zero, List.set_cons_succ])
    refine wpAnyH_ready (rs := [15]) (by kernel_rfl) (by simp) ?_
    refine AllReadyH.cons (take_at rfl) (fun K hK => ?_) AllReadyH.nil
    go_simp
    have HC := has_any yn An mn cn v cv _ (RT.out.step B.out) Sn.out hmn (RV.out.step B.out)
    rw [HVn.out] at HC
    (try rw [← EX.out] at HC)
    (try rw [← EY.out] at HC)
    (try rw [← EO.out] at HC)
    (try simp only [Bool.and_true, Bool.and_false, Bool.true_and, Bool.false_and, Bool.or_true, Bool.or_false, Bool.true_or, Bool.false_or, Bool.not_true, Bool.not_false] at HC)
    refine HC.mono ?_
    clear HC
    rintro e3 wh ⟨rfl, hb⟩
    replace B := Lib.hid (B.out.step' hb)
    clear hb HVn Sn hmn
    (try go_wp2_with fail)
    refine hK.out _ _ ?_ (fun hHeld2 => ?_)
    · (try dsimp only); exact KS.out _ B.out
    clear hK K hHeld
    have hHeld := hHeld2
    clear hHeld2
    (try simp only [Act.put, List.setIfInBounds_toArray, List.set_cons_zero, List.set_cons_succ])
    refine wpAnyH_take (i := 17) (v := ?_) (take_at rfl) (by kernel_rfl) (by kernel_rfl) (by kernel_rfl) (fun _ _ _ h => h) (Or.inl ⟨by rfl, ?_⟩) (by assumption) ?_
    rotate_left
    · intro w' hSw; (try dsimp only at hSw); go_simp; (try with_reducible rfl)
    (try simp only [Act.put, List.setIfInBounds_toArray, List.set_cons_zero, List.set_cons_succ])
    refine wpAnyH_take (i := 18) (v := ?_) (take_at rfl) (by kernel_rfl) (by kernel_rfl) (by kernel_rfl) (fun _ _ _ h => h) (Or.inl ⟨by rfl, ?_⟩) (by assumption) ?_
    rotate_left
    · intro w' hSw; (try dsimp only at hSw); go_simp; (try with_reducible rfl)
    (try simp only [Act.put, List.setIfInBounds_toArray, List.set_cons_zero, List.set_cons_succ])
    refine wpAnyH_take (i := 19) (v := ?_) (take_at rfl) (by kernel_rfl) (by kernel_rfl) (by kernel_rfl) (fun _ _ _ h => h) (Or.inl ⟨by rfl, ?_⟩) (by assumption) ?_
    rotate_left
    · intro w' hSw; (try dsimp only at hSw); go_simp; (try with_reducible rfl)
    (try simp only [Act.put, List.setIfInBounds_toArray, List.set_cons_zero, List.set_cons_succ])
    refine wpAnyH_take (i := 20) (v := ?_) (take_at rfl) (by kernel_rfl) (by kernel_rfl) (by kernel_rfl) (fun _ _ _ h => h) (Or.inl ⟨by rfl, ?_⟩) (by assumption) ?_
    rotate_left
    · intro w' hSw; (try dsimp only at hSw); go_simp; (try with_reducible rfl)
    (try simp only [Act.put, List.setIfInBounds_toArray, List.set_cons_zero, List.set_cons_succ])
    refine wpAnyH_take (i := 21) (v := ?_) (take_at rfl) (by kernel_rfl) (by kernel_rfl) (by kernel_rfl) (fun _ _ _ h => h) (Or.inl ⟨by rfl, ?_⟩) (by assumption) ?_
    rotate_left
    · intro w' hSw; (try dsimp only at hSw); go_simp; (try with_reducible rfl)
    (try simp only [Act.put, List.setIfInBounds_toArray, List.set_cons_zero, List.set_cons_succ])
    refine wpAnyH_take (i := 22) (v := ?_) (take_at rfl) (by kernel_rfl) (by kernel_rfl) (by kernel_rfl) (fun _ _ _ h => h) (Or.inl ⟨by rfl, ?_⟩) (by assumption) ?_
    rotate_left
    · intro w' hSw; (try dsimp only at hSw); go_simp; (try with_reducible rfl)
    (try simp only [Act.put, List.setIfInBounds_toArray, List.set_cons_zero, List.set_cons_succ])
    refine wpAnyH_take (i := 23) (v := ?_) (take_at rfl) (by kernel_rfl) (by kernel_rfl) (by kernel_rfl) (fun _ _ _ h => h) (Or.inl ⟨by rfl, ?_⟩) (by assumption) ?_
    rotate_left
    · intro w' hSw; (try dsimp only at hSw); go_simp; (try with_reducible rfl)
    (try simp only [Act.put, List.setIfInBounds_toArray, List.set_cons_zero, List.set_cons_succ])
    refine wpAnyH_take (i := 25) (v := ?_) (take_at rfl) (by kernel_rfl) (by kernel_rfl) (by kernel_rfl) (fun _ _ _ h => h) (Or.inl ⟨by rfl, ?_⟩) (by assumption) ?_
    rotate_left
    · intro w' hSw; (try dsimp only at hSw); go_simp; (try with_reducible rfl)
    (try simp only [Act.put, List.setIfInBounds_toArray, List.set_cons_zero, List.set_cons_succ])
    refine wpAnyH_take (i := 27) (v := ?_) (take_at rfl) (by kernel_rfl) (by kernel_rfl) (by kernel_rfl) (fun _ _ _ h => h) (Or.inl ⟨by rfl, ?_⟩) (by assumption) ?_
    rotate_left
    · intro w' hSw; (try dsimp only at hSw); go_simp; (try with_reducible rfl)
    (try simp only [Act.put, List.setIfInBounds_toArray, List.set_cons_zero, List.set_cons_succ])
    refine wpAnyH_ready (rs := [24]) (by kernel_rfl) (by simp) ?_
    refine AllReadyH.cons (take_at rfl) (fun K hK => ?_) AllReadyH.nil
    go_simp
    refine (rest_any ya Aa ma ca _ (RT.out.step B.out) (RA.out.step B.out) (by omega)).mono ?_
    rintro e3 wn ⟨An, mn, cn, yn, qn, rfl, he, hn, hm, hs, hb⟩
    have HVn := Lib.hid (has_rest (ya := ya) (v := v) he hn)
    have Sn := Lib.hid hs
    have hmn : mn ≤ 100000 := by omega
    replace B := Lib.hid (B.out.step' hb)
    clear he hn hm hs hb
    (try go_wp2_with fail)
    refine hK.out _ _ ?_ (fun hHeld2 => ?_)
    · (try dsimp only); exact KS.out _ B.out
    clear hK K hHeld
    have hHeld := hHeld2
    clear hHeld2
    (try simp only [Act.put, List.setIfInBounds_toArray, List.set_cons_zero, List.set_cons_succ])
    refine wpAnyH_ready (rs := [26]) (by kernel_rfl) (by simp) ?_
    refine AllReadyH.cons (take_at rfl) (fun K hK => ?_) AllReadyH.nil
    go_simp
    have HC := has_any yn An mn cn v cv _ (RT.out.step B.out) Sn.out hmn (RV.out.step B.out)
    rw [HVn.out] at HC
    (try rw [← EX.out] at HC)
    (try rw [← EY.out] at HC)
    (try rw [← EO.out] at HC)
    (try simp only [Bool.and_true, Bool.and_false, Bool.true_and, Bool.false_and, Bool.or_true, Bool.or_false, Bool.true_or, Bool.false_or, Bool.not_true, Bool.not_false] at HC)
    refine HC.mono ?_
    clear HC
    rintro e3 wh ⟨rfl, hb⟩
    replace B := Lib.hid (B.out.step' hb)
    clear hb HVn Sn hmn
    (try go_wp2_with fail)
    refine hK.out _ _ ?_ (fun hHeld2 => ?_)
    · (try dsimp only); exact KS.out _ B.out
    clear hK K hHeld
    have hHeld := hHeld2
    clear hHeld2
    (try simp only [Act.put, List.setIfInBounds_toArray, List.set_cons_zero, List.set_cons_succ])
    refine wpAnyH_take (i := 28) (v := ?_) (take_at rfl) (by kernel_rfl) (by kernel_rfl) (by kernel_rfl) (fun _ _ _ h => h) (Or.inl ⟨by rfl, ?_⟩) (by assumption) ?_
    rotate_left
    · intro w' hSw; (try dsimp only at hSw); go_simp; (try with_reducible rfl)
    (try simp only [Act.put, List.setIfInBounds_toArray, List.set_cons_zero, List.set_cons_succ])
    refine wpAnyH_take (i := 29) (v := undef) (take_at rfl) (by kernel_rfl) (by kernel_rfl) (by kernel_rfl) (fun _ _ _ h => h) (Or.inr ⟨by rfl, rfl⟩) (by assumption) ?_
    (try simp only [Act.put, List.setIfInBounds_toArray, List.set_cons_zero, List.set_cons_succ])
    refine wpAnyH_take (i := 30) (v := undef) (take_at rfl) (by kernel_rfl) (by kernel_rfl) (by kernel_rfl) (fun _ _ _ h => h) (Or.inr ⟨by rfl, rfl⟩) (by assumption) ?_
    (try simp only [Act.put, List.setIfInBounds_toArray, List.set_cons_zero, List.set_cons_succ])
    refine wpAnyH_take (i := 31) (v := ?_) (take_at rfl) (by kernel_rfl) (by kernel_rfl) (by kernel_rfl) (fun _ _ _ h => h) (Or.inl ⟨by rfl, ?_⟩) (by assumption) ?_
    rotate_left
    · intro w' hSw; (try dsimp only at hSw); go_simp; (try with_reducible rfl)
    (try simp only [Act.put, List.setIfInBounds_toArray, List.set_cons_zero, List.set_cons_succ])
    refine wpAnyH_take (i := 32) (v := ?_) (take_at rfl) (by kernel_rfl) (by kernel_rfl) (by kernel_rfl) (fun _ _ _ h => h) (Or.inl ⟨by rfl, ?_⟩) (by assumption) ?_
    rotate_left
    · intro w' hSw; (try dsimp only at hSw); go_simp; (try with_reducible rfl)
    (try simp only [Act.put, List.setIfInBounds_toArray, List.set_cons_zero, List.set_cons_succ])
    refine wpAnyH_take (i := 33) (v := ?_) (take_at rfl) (by kernel_rfl) (by kernel_rfl) (by kernel_rfl) (fun _ _ _ h => h) (Or.inl ⟨by rfl, ?_⟩) (by assumption) ?_
    rotate_left
    · intro w' hSw; (try dsimp only at hSw); go_simp; (try with_reducible rfl)
    (try simp only [Act.put, List.setIfInBounds_toArray, List.set_cons_zero, List.set_cons_succ])
    refine wpAnyH_done (by kernel_rfl) ?_ _
    refine NoPanic.normal ?_
    clear KS RT RA RB RV hHeld
    replace I := Lib.hid (I.out.step B.out)
    clear B
    go_upto_region 7 with fail
    obtain ⟨x0, x1, x2, x3, x4⟩ := VAt.of_blk I.out.b
    have B := Lib.hid ((Below.refl wh.heap.size wh).drewN 1)
    have RT := Lib.hid (HT.out.step I.out.bel)
    have RA := Lib.hid (Sa.out.step I.out.bel)
    have RB := Lib.hid (Sb.out.step I.out.bel)
    have RV := Lib.hid (Sv.out.step I.out.bel)
    have KS : Hid (∀ w', Below wh.heap.size wh w' → w'.cell? ⟨w.heap.size, 0, none⟩ = some (.int .i64 cv.k) ∧ w'.cell? ⟨w.heap.size, 1, none⟩ = some (.int .i64 cv.n) ∧ w'.cell? ⟨w.heap.size, 2, none⟩ = some (.string cv.t) ∧ w'.cell? ⟨w.heap.size, 3, none⟩ = some (.slice cv.LA cv.ln cv.lc) ∧ w'.cell? ⟨w.heap.size, 4, none⟩ = some (.slice cv.DA cv.dn cv.dc)) := fun w' hb => ⟨(hb.cell (p := ⟨w.heap.size, 0, none⟩) I.out.b.lt).trans x0, (hb.cell (p := ⟨w.heap.size, 1, none⟩) I.out.b.lt).trans x1, (hb.cell (p := ⟨w.heap.size, 2, none⟩) I.out.b.lt).trans x2, (hb.cell (p := ⟨w.heap.size, 3, none⟩) I.out.b.lt).trans x3, (hb.cell (p := ⟨w.heap.size, 4, none⟩) I.out.b.lt).trans x4⟩
    clear x0 x1 x2 x3 x4
    refine wp_region_noPanic ?_
    refine wp_region_held_drew (S := (fun w' => w'.cell? ⟨w.heap.size, 0, none⟩ = some (.int .i64 cv.k) ∧ w'.cell? ⟨w.heap.size, 1, none⟩ = some (.int .i64 cv.n) ∧ w'.cell? ⟨w.heap.size, 2, none⟩ = some (.string cv.t) ∧ w'.cell? ⟨w.heap.size, 3, none⟩ = some (.slice cv.LA cv.ln cv.lc) ∧ w'.cell? ⟨w.heap.size, 4, none⟩ = some (.slice cv.DA cv.dn cv.dc))) (by kernel_rfl) ?_ (fun hHeld => ?_)
    · (try dsimp only); exact KS.out _ B.out
    refine wpAnyH_take (i := 0) (v := ?_) (take_at rfl) (by kernel_rfl) (by kernel_rfl) (by kernel_rfl) (fun _ _ _ h => h) (Or.inl ⟨by rfl, ?_⟩) (by assumption) ?_
    rotate_left
    · intro w' hSw; (try dsimp only at hSw); go_simp; (try with_reducible rfl)
    (try simp only [Act.put, List.setIfInBounds_toArray, List.set_cons_zero, List.set_cons_succ])
    refine wpAnyH_take (i := 2) (v := ?_) (take_at rfl) (by kernel_rfl) (by kernel_rfl) (by kernel_rfl) (fun _ _ _ h => h) (Or.inl ⟨by rfl, ?_⟩) (by assumption) ?_
    rotate_left
    · intro w' hSw; (try dsimp only at hSw); go_simp; (try with_reducible rfl)
    (try simp only [Act.put, List.setIfInBounds_toArray, List.set_cons_zero, List.set_cons_succ])
    refine wpAnyH_take (i := 4) (v := ?_) (take_at rfl) (by kernel_rfl) (by kernel_rfl) (by kernel_rfl) (fun _ _ _ h => h) (Or.inl ⟨by rfl, ?_⟩) (by assumption) ?_
    rotate_left
    · intro w' hSw; (try dsimp only at hSw); go_simp; (try with_reducible rfl)
    (try simp only [Act.put, List.setIfInBounds_toArray, List.set_cons_zero, List.set_cons_succ])
    refine wpAnyH_ready (rs := [1]) (by kernel_rfl) (by simp) ?_
    refine AllReadyH.cons (take_at rfl) (fun K hK => ?_) AllReadyH.nil
    go_simp
    refine (normal_any ya Aa ma ca _ (RT.out.step B.out) (RA.out.step B.out) (by omega)).mono ?_
    rintro e3 wn ⟨An, mn, cn, yn, qn, rfl, he, hn, hm, hs, hb⟩
    have HVn := Lib.hid (has_normal (ya := ya) (v := v) he hn)
    have Sn := Lib.hid hs
    have hmn : mn ≤ 100000 := by omega
    replace B := Lib.hid (B.out.step' hb)
    clear he hn hm hs hb
    (try go_wp2_with fail)
    refine hK.out _ _ ?_ (fun hHeld2 => ?_)
    · (try dsimp only); exact KS.out _ B.out
    clear hK K hHeld
    have hHeld := hHeld2
    clear hHeld2
    (try simp only [Act.put, List.setIfInBounds_toArray, List.set_cons_zero, List.set_cons_succ])
    refine wpAnyH_ready (rs := [3]) (by kernel_rfl) (by simp) ?_
    refine AllReadyH.cons (take_at rfl) (fun K hK => ?_) AllReadyH.nil
    go_simp
    have HC := has_any yn An mn cn v cv _ (RT.out.step B.out) Sn.out hmn (RV.out.step B.out)
    rw [HVn.out] at HC
    (try rw [← EX.out] at HC)
    (try rw [← EY.out] at HC)
    (try rw [← EO.out] at HC)
    (try simp only [Bool.and_true, Bool.and_false, Bool.true_and, Bool.false_and, Bool.or_true, Bool.or_false, Bool.true_or, Bool.false_or, Bool.not_true, Bool.not_false] at HC)
    refine HC.mono ?_
    clear HC
    rintro e3 wh ⟨rfl, hb⟩
    replace B := Lib.hid (B.out.step' hb)
    clear hb HVn Sn hmn
    (try go_wp2_with fail)
    refine hK.out _ _ ?_ (fun hHeld2 => ?_)
    · (try dsimp only); exact KS.out _ B.out
    clear hK K hHeld
    have hHeld := hHeld2
    clear hHeld2
    (try simp only [Act.put, List.setIfInBounds_toArray, List.set_cons_zero, List.set_cons_succ])
    refine wpAnyH_take (i := 5) (v := ?_) (take_at rfl) (by kernel_rfl) (by kernel_rfl) (by kernel_rfl) (fun _ _ _ h => h) (Or.inl ⟨by rfl, ?_⟩) (by assumption) ?_
    rotate_left
    · intro w' hSw; (try dsimp only at hSw); go_simp; (try with_reducible rfl)
    (try simp only [Act.put, List.setIfInBounds_toArray, List.set_cons_zero, List.set_cons_succ])
    refine wpAnyH_take (i := 6) (v := ?_) (take_at rfl) (by kernel_rfl) (by kernel_rfl) (by kernel_rfl) (fun _ _ _ h => h) (Or.inl ⟨by rfl, ?_⟩) (by assumption) ?_
    rotate_left
    · intro w' hSw; (try dsimp only at hSw); go_simp; (try with_reducible rfl)
    (try simp only [Act.put, List.setIfInBounds_toArray, List.set_cons_zero, List.set_cons_succ])
    refine wpAnyH_take (i := 8) (v := ?_) (take_at rfl) (by kernel_rfl) (by kernel_rfl) (by kernel_rfl) (fun _ _ _ h => h) (Or.inl ⟨by rfl, ?_⟩) (by assumption) ?_
    rotate_left
    · intro w' hSw; (try dsimp only at hSw); go_simp; (try with_reducible rfl)
    (try simp only [Act.put, List.setIfInBounds_toArray, List.set_cons_zero, List.set_cons_succ])
    refine wpAnyH_take (i := 10) (v := ?_) (take_at rfl) (by kernel_rfl) (by kernel_rfl) (by kernel_rfl) (fun _ _ _ h => h) (Or.inl ⟨by rfl, ?_⟩) (by assumption) ?_
    rotate_left
    · intro w' hSw; (try dsimp only at hSw); go_simp; (try with_reducible rfl)
    (try simp only [Act.put, List.setIfInBounds_toArray, List.set_cons_zero, List.set_cons_succ])
    refine wpAnyH_ready (rs := [7]) (by kernel_rfl) (by simp) ?_
    refine AllReadyH.cons (take_at rfl) (fun K hK => ?_) AllReadyH.nil
    go_simp
    refine (all_any _).mono ?_
    rintro e3 wn ⟨An, mn, cn, yn, qn, rfl, he, hn, hm, hs, hb⟩
    have HVn := Lib.hid (has_all (v := v) he hn)
    have Sn := Lib.hid hs
    have hmn : mn ≤ 100000 := by omega
    replace B := Lib.hid (B.out.step' hb)
    clear he hn hm hs hb
    (try go_wp2_with fail)
    refine hK.out _ _ ?_ (fun hHeld2 => ?_)
    · (try dsimp only); exact KS.out _ B.out
    clear hK K hHeld
    have hHeld := hHeld2
    clear hHeld2
    (try simp only [Act.put, List.setIfInBounds_toArray, List.set_cons_zero, List.set_cons_succ])
    refine wpAnyH_ready (rs := [9]) (by kernel_rfl) (by simp) ?_
    refine AllReadyH.cons (take_at rfl) (fun K hK => ?_) AllReadyH.nil
    go_simp
    have HC := has_any yn An mn cn v cv _ (RT.out.step B.out) Sn.out hmn (RV.out.step B.out)
    rw [HVn.out] at HC
    (try rw [← EX.out] at HC)
    (try rw [← EY.out] at HC)
    (try rw [← EO.out] at HC)
    (try simp only [Bool.and_true, Bool.and_false, Bool.true_and, Bool.false_and, Bool.or_true, Bool.or_false, Bool.true_or, Bool.false_or, Bool.not_true, Bool.not_false] at HC)
    refine HC.mono ?_
    clear HC
    rintro e3 wh ⟨rfl, hb⟩
    replace B := Lib.hid (B.out.step' hb)
    clear hb HVn Sn hmn
    (try go_wp2_with fail)
    refine hK.out _ _ ?_ (fun hHeld2 => ?_)
    · (try dsimp only); exact KS.out _ B.out
    clear hK K hHeld
    have hHeld := hHeld2
    clear hHeld2
    (try simp only [Act.put, List.setIfInBounds_toArray, List.set_cons_zero, List.set_cons_succ])
    refine wpAnyH_take (i := 11) (v := ?_) (take_at rfl) (by kernel_rfl) (by kernel_rfl) (by kernel_rfl) (fun _ _ _ h => h) (Or.inl ⟨by rfl, ?_⟩) (by assumption) ?_
    rotate_left
    · intro w' hSw; (try dsimp only at hSw); go_simp; (try with_reducible rfl)
    (try simp only [Act.put, List.setIfInBounds_toArray, List.set_cons_zero, List.set_cons_succ])
    refine wpAnyH_take (i := 12) (v := ?_) (take_at rfl) (by kernel_rfl) (by kernel_rfl) (by kernel_rfl) (fun _ _ _ h => h) (Or.inl ⟨by rfl, ?_⟩) (by assumption) ?_
    rotate_left
    · intro w' hSw; (try dsimp only at hSw); go_simp; (try with_reducible rfl)
    (try simp only [Act.put, List.setIfInBounds_toArray, List.set_cons_zero, List.set_cons_succ])
    refine wpAnyH_take (i := 13) (v := ?_) (take_at rfl) (by kernel_rfl) (by kernel_rfl) (by kernel_rfl) (fun _ _ _ h => h) (Or.inl ⟨by rfl, ?_⟩) (by assumption) ?_
    rotate_left
    · intro w' hSw; (try dsimp only at hSw); go_simp; (try with_reducible rfl)
    (try simp only [Act.put, List.setIfInBounds_toArray, List.set_cons_zero, List.set_cons_succ])
    refine wpAnyH_take (i := 14) (v := ?_) (take_at rfl) (by kernel_rfl) (by kernel_rfl) (by kernel_rfl) (fun _ _ _ h => h) (Or.inl ⟨by rfl, ?_⟩) (by assumption) ?_
    rotate_left
    · intro w' hSw; (try dsimp only at hSw); go_simp; (try with_reducible rfl)
    (try simp only [Act.put, List.setIfInBounds_toArray, List.set_cons_zero, List.set_cons_succ])
    refine wpAnyH_take (i := 17) (v := ?_) (take_at rfl) (by kernel_rfl) (by kernel_rfl) (by kernel_rfl) (fun _ _ _ h => h) (Or.inl ⟨by rfl, ?_⟩) (by assumption) ?_
    rotate_left
    · intro w' hSw; (try dsimp only at hSw); go_simp; (try with_reducible rfl)
    (try simp only [Act.put, List.setIfInBounds_toArray, List.set_cons_zero, List.set_cons_succ])
    refine wpAnyH_take (i := 19) (v := ?_) (take_at rfl) (by kernel_rfl) (by kernel_rfl) (by kernel_rfl) (fun _ _ _ h => h) (Or.inl ⟨by rfl, ?_⟩) (by assumption) ?_
    rotate_left
    · intro w' hSw; (try dsimp only at hSw); go_simp; (try with_reducible rfl)
    (try simp only [Act.put, List.setIfInBounds_toArray, List.set_cons_zero, List.set_cons_succ])
    refine wpAnyH_ready (rs := [15]) (by kernel_rfl) (by simp) ?_
    refine AllReadyH.cons (take_at rfl) (fun K hK => ?_) AllReadyH.nil
    go_simp
    refine hK.out _ _ ?_ (fun hHeld2 => ?_)
    · (try dsimp only); exact KS.out _ (B.out.alloc B.out.size _)
    have SP : Hid (SL (fun _ => True) _ (some ⟨_, 0, none⟩) 1 1 [(cv, v)]) := Lib.hid (sl_list (Blk.new _ 30 (flat recV [(cv, v)]).toArray) rfl (by decide) (by intro p hp; simp only [List.mem_cons, List.not_mem_nil, or_false] at hp; subst hp; exact RV.out.step (B.out.alloc B.out.size _)))
    replace B := Lib.hid (B.out.alloc B.out.size (Obj.cells (flat recV [(cv, v)]).toArray 30))
    clear hK K hHeld
    have hHeld := hHeld2
    clear hHeld2
    (try simp only [Act.put, List.setIfInBounds_toArray, List.set_cons_zero, List.set_cons_succ])
    refine wpAnyH_ready (rs := [16]) (by kernel_rfl) (by simp) ?_
    refine AllReadyH.cons (take_at rfl) (fun K hK => ?_) AllReadyH.nil
    go_simp
    refine (points_any [(cv, v)] _ 1 1 _ (RT.out.step B.out) SP.out (by omega)).mono ?_
    rintro e3 wn ⟨An, mn, cn, yn, qn, rfl, he, hn, hm, hs, hb⟩
    have HVn := Lib.hid (has_points (cv := cv) (v := v) he hn)
    have Sn := Lib.hid hs
    have hmn : mn ≤ 100000 := by omega
    replace B := Lib.hid (B.out.step' hb)
    clear he hn hm hs hb
    (try go_wp2_with fail)
    refine hK.out _ _ ?_ (fun hHeld2 => ?_)
    · (try dsimp only); exact KS.out _ B.out
    clear hK K hHeld
    have hHeld := hHeld2
    clear hHeld2
    (try simp only [Act.put, List.setIfInBounds_toArray, List.set_cons_zero, List.set_cons_succ])
    refine wpAnyH_ready (rs := [18]) (by kernel_rfl) (by simp) ?_
    refine AllReadyH.cons (take_at rfl) (fun K hK => ?_) AllReadyH.nil
    go_simp
    have HC := has_any yn An mn cn v cv _ (RT.out.step B.out) Sn.out hmn (RV.out.step B.out)
    rw [HVn.out] at HC
    (try rw [← EX.out] at HC)
    (try rw [← EY.out] at HC)
    (try rw [← EO.out] at HC)
    (try simp only [Bool.and_true, Bool.and_false, Bool.true_and, Bool.false_and, Bool.or_true, Bool.or_false, Bool.true_or, Bool.false_or, Bool.not_true, Bool.not_false] at HC)
    refine HC.mono ?_
    clear HC
    rintro e3 wh ⟨rfl, hb⟩
    replace B := Lib.hid (B.out.step' hb)
    clear hb HVn Sn hmn
    (try go_wp2_with fail)
    refine hK.out _ _ ?_ (fun hHeld2 => ?_)
    · (try dsimp only); exact KS.out _ B.out
    clear hK K hHeld
    have hHeld := hHeld2
    clear hHeld2
    (try simp only [Act.put, List.setIfInBounds_toArray, List.set_cons_zero, List.set_cons_succ])
    refine wpAnyH_take (i := 20) (v := ?_) (take_at rfl) (by kernel_rfl) (by kernel_rfl) (by kernel_rfl) (fun _ _ _ h => h) (Or.inl ⟨by rfl, ?_⟩) (by assumption) ?_
    rotate_left
    · intro w' hSw; (try dsimp only at hSw); go_simp; (try with_reducible rfl)
    (try simp only [Act.put, List.setIfInBounds_toArray, List.set_cons_zero, List.set_cons_succ])
    refine wpAnyH_take (i := 21) (v := ?_) (take_at rfl) (by kernel_rfl) (by kernel_rfl) (by kernel_rfl) (fun _ _ _ h => h) (Or.inl ⟨by rfl, ?_⟩) (by assumption) ?_
    rotate_left
    · intro w' hSw; (try dsimp only at hSw); go_simp; (try with_reducible rfl)
    (try simp only [Act.put, List.setIfInBounds_toArray, List.set_cons_zero, List.set_cons_succ])
    refine wpAnyH_take (i := 22) (v := ?_) (take_at rfl) (by kernel_rfl) (by kernel_rfl) (by kernel_rfl) (fun _ _ _ h => h) (Or.inl ⟨by rfl, ?_⟩) (by assumption) ?_
    rotate_left
    · intro w' hSw; (try dsimp only at hSw); go_simp; (try with_reducible rfl)
    (try simp only [Act.put, List.setIfInBounds_toArray, List.set_cons_zero, List.set_cons_succ])
    refine wpAnyH_take (i := 23) (v := ?_) (take_at rfl) (by kernel_rfl) (by kernel_rfl) (by kernel_rfl) (fun _ _ _ h => h) (Or.inl ⟨by rfl, ?_⟩) (by assumption) ?_
    rotate_left
    · intro w' hSw; (try dsimp only at hSw); go_simp; (try with_reducible rfl)
    (try simp only [Act.put, List.setIfInBounds_toArray, List.set_cons_zero, List.set_cons_succ])
    refine wpAnyH_take (i := 24) (v := ?_) (take_at rfl) (by kernel_rfl) (by kernel_rfl) (by kernel_rfl) (fun _ _ _ h => h) (Or.inl ⟨by rfl, ?_⟩) (by assumption) ?_
    rotate_left
    · intro w' hSw; (try dsimp only at hSw); go_simp; (try with_reducible rfl)
    (try simp only [Act.put, List.setIfInBounds_toArray, List.set_cons_zero, List.set_cons_succ])
    refine wpAnyH_take (i := 25) (v := ?_) (take_at rfl) (by kernel_rfl) (by kernel_rfl) (by kernel_rfl) (fun _ _ _ h => h) (Or.inl ⟨by rfl, ?_⟩) (by assumption) ?_
    rotate_left
    · intro w' hSw; (try dsimp only at hSw); go_simp; (try with_reducible rfl)
    (try simp only [Act.put, List.setIfInBounds_toArray, List.set_cons_zero, List.set_cons_succ])
    refine wpAnyH_take (i := 26) (v := ?_) (take_at rfl) (by kernel_rfl) (by kernel_rfl) (by kernel_rfl) (fun _ _ _ h => h) (Or.inl ⟨by rfl, ?_⟩) (by assumption) ?_
    rotate_left
    · intro w' hSw; (try dsimp only at hSw); go_simp; (try with_reducible rfl)
    (try simp only [Act.put, List.setIfInBounds_toArray, List.set_cons_zero, List.set_cons_succ])
    refine wpAnyH_take (i := 27) (v := ?_) (take_at rfl) (by kernel_rfl) (by kernel_rfl) (by kernel_rfl) (fun _ _ _ h => h) (Or.inl ⟨by rfl, ?_⟩) (by assumption) ?_
    rotate_left
    · intro w' hSw; (try dsimp only at hSw); go_simp; (try with_reducible rfl)
    (try simp only [Act.put, List.setIfInBounds_toArray, List.set_cons_zero, List.set_cons_succ])
    refine wpAnyH_take (i := 28) (v := ?_) (take_at rfl) (by kernel_rfl) (by kernel_rfl) (by kernel_rfl) (fun _ _ _ h => h) (Or.inl ⟨by rfl, ?_⟩) (by assumption) ?_
    rotate_left
    · intro w' hSw; (try dsimp only at hSw); go_simp; (try with_reducible rfl)
    (try simp only [Act.put, List.setIfInBounds_toArray, List.set_cons_zero, List.set_cons_succ])
    refine wpAnyH_take (i := 29) (v := ?_) (take_at rfl) (by kernel_rfl) (by kernel_rfl) (by kernel_rfl) (fun _ _ _ h => h) (Or.inl ⟨by rfl, ?_⟩) (by assumption) ?_
    rotate_left
    · intro w' hSw; (try dsimp only at hSw); go_simp; (try with_reducible rfl)
    (try simp only [Act.put, List.setIfInBounds_toArray, List.set_cons_zero, List.set_cons_succ])
    refine wpAnyH_ready (rs := [30]) (by kernel_rfl) (by simp) ?_
    refine AllReadyH.cons (take_at rfl) (fun K hK => ?_) AllReadyH.nil
    go_simp
    refine (awake24_any _ (RT.out.step B.out)).mono ?_
    rintro e3 wk ⟨rfl, hb⟩
    replace B := Lib.hid (B.out.step' hb)
    clear hb
    (try go_wp2_with fail)
    refine hK.out _ _ ?_ (fun hHeld2 => ?_)
    · (try dsimp only); exact KS.out _ B.out
    clear hK K hHeld
    have hHeld := hHeld2
    clear hHeld2
    (try simp only [Act.put, List.setIfInBounds_toArray, List.set_cons_zero, List.set_cons_succ])
    refine wpAnyH_take (i := 31) (v := ?_) (take_at rfl) (by kernel_rfl) (by kernel_rfl) (by kernel_rfl) (fun _ _ _ h => h) (Or.inl ⟨by rfl, ?_⟩) (by assumption) ?_
    rotate_left
    · intro w' hSw; (try dsimp only at hSw); go_simp; (try with_reducible rfl)
    (try simp only [Act.put, List.setIfInBounds_toArray, List.set_cons_zero, List.set_cons_succ])
    refine wpAnyH_take (i := 32) (v := ?_) (take_at rfl) (by kernel_rfl) (by kernel_rfl) (by kernel_rfl) (fun _ _ _ h => h) (Or.inl ⟨by rfl, ?_⟩) (by assumption) ?_
    rotate_left
    · intro w' hSw; (try dsimp only at hSw); go_simp; (try with_reducible rfl)
    (try simp only [Act.put, List.setIfInBounds_toArray, List.set_cons_zero, List.set_cons_succ])
    refine wpAnyH_done (by kernel_rfl) ?_ _
    refine NoPanic.normal ?_
    clear KS RT RA RB RV hHeld
    replace I := Lib.hid (I.out.step B.out)
    clear B
    go_wp2_with fail
    go_ret
    exact ⟨rfl, I.out.bel⟩

end Go.Proofs.YtdmabhbhlnpkgaaDoor
