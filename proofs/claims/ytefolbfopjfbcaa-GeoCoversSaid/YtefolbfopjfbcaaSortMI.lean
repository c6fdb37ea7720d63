/- The library's symMerge at one element type. (Printed by gen_sort3.py I.) -/
import Derived.Test.YtefolbfopjfbcaaSortRI
namespace Go.Proofs.Ytefolbfopjfbcaa
open Go.RowKit
set_option linter.unusedSectionVars false
variable [Inhabited Ctx]

section
variable {α : Type} {cm : α → α → Int}
theorem RT.le {x y : α × Nat} (h : RT cm x y) : cm x.1 y.1 ≤ 0 := by unfold RT at h; omega
theorem cm_le_lt (H : Ordered cm) {x y z : α} (h1 : cm x y ≤ 0) (h2 : cm y z < 0) : cm x z < 0 := by
  have := H.tr x y z h1 (by omega)
  omega
theorem cm_lt_le (H : Ordered cm) {x y z : α} (h1 : cm x y < 0) (h2 : cm y z ≤ 0) : cm x z < 0 := by
  have := H.tr x y z (by omega) h2
  omega
theorem cm_le_le (H : Ordered cm) {x y z : α} (h1 : cm x y ≤ 0) (h2 : cm y z ≤ 0) : cm x z ≤ 0 := (H.tr x y z h1 h2).1
/-- elements of a sorted list, by their places -/
theorem pw_at {R : α × Nat → α × Nat → Prop} {l : List (α × Nat)} (h : l.Pairwise R) {i j : Nat} {x y : α × Nat} (hij : i < j) (hx : l[i]? = some x) (hy : l[j]? = some y) : R x y := by
  obtain ⟨hi, rfl⟩ := List.getElem?_eq_some_iff.1 hx
  obtain ⟨hj, rfl⟩ := List.getElem?_eq_some_iff.1 hy
  exact List.pairwise_iff_getElem.1 h i j hi hj hij
/-- one element and a sorted list, split at its place -/
theorem merge_one (H : Ordered cm) {x : α × Nat} {Y1 Y2 : List (α × Nat)} (hY : (Y1 ++ Y2).Pairwise (RT cm)) (ht : ∀ y ∈ Y1 ++ Y2, x.2 < y.2) (h1 : ∀ y ∈ Y1, cm y.1 x.1 < 0) (h2 : ∀ y ∈ Y2, ¬ cm y.1 x.1 < 0) : Sorted cm ([x] ++ (Y1 ++ Y2)) (Y1 ++ x :: Y2) := by
  refine ⟨by rw [List.singleton_append]; exact List.perm_middle, ?_⟩
  rw [List.pairwise_append] at hY ⊢
  refine ⟨hY.1, List.pairwise_cons.2 ⟨fun y hy => ?_, hY.2.1⟩, fun y hy z hz => ?_⟩
  · unfold RT
    have := h2 y hy
    have := H.anti y.1 x.1
    have := ht y (by simp [hy])
    omega
  · rcases List.mem_cons.1 hz with rfl | hz
    · exact .inl (h1 y hy)
    · exact hY.2.2 y hy z hz
end
theorem swap3_list {α : Type} (A P1 P3 E : List α) (x y : α) : ((A ++ (P1 ++ x :: y :: P3) ++ E).set (A.length + P1.length) y).set (A.length + P1.length + 1) x = A ++ ((P1 ++ [y]) ++ x :: P3) ++ E := by
  have e1 : (A ++ (P1 ++ x :: y :: P3) ++ E).set (A.length + P1.length) y = (A ++ P1 ++ [y]) ++ y :: (P3 ++ E) := by
    rw [show A ++ (P1 ++ x :: y :: P3) ++ E = (A ++ P1) ++ x :: (y :: (P3 ++ E)) by simp, List.set_append_right _ _ (by simp), show A.length + P1.length - (A ++ P1).length = 0 by simp]
    simp
  rw [e1, List.set_append_right _ _ (by simp; omega), show A.length + P1.length + 1 - (A ++ P1 ++ [y]).length = 0 by simp; omega]
  simp
/-- what symMerge leaves -/
def MergedI (g : Nat) (w : World) (A X Y D : List (Int × Nat)) (e : Ending) (w' : World) : Prop := e = .returned (.tuple #[]) ∧ ∃ S, Sorted (fun p q : Int => gapC p q) (X ++ Y) S ∧ IsI g w (A ++ S ++ D) w'
structure HalvesI (A X Y D : List (Int × Nat)) (g n : Nat) (w : World) : Prop where
  row : SRowI w g (A ++ X ++ Y ++ D)
  ln : n = (A ++ X ++ Y ++ D).length
  sz : n * 8 ≤ reach
  hX : X.Pairwise (RT (fun p q : Int => gapC p q))
  hY : Y.Pairwise (RT (fun p q : Int => gapC p q))
  hT : ∀ x ∈ X, ∀ y ∈ Y, x.2 < y.2
  cmp : CmpOkI g w (X ++ Y)

set_option maxRecDepth 100000 in
set_option maxHeartbeats 4000000 in
theorem sym1I (H : Ordered (fun p q : Int => gapC p q)) (A : List (Int × Nat)) (x : Int × Nat) (Y D : List (Int × Nat)) (g n c a m b : Nat) (aI mI bI : Int) (w : World) (h : HalvesI A [x] Y D g n w)
    (ha : a = A.length) (hm : m = a + 1) (hb : b = m + Y.length) (haI : aI = a) (hmI : mI = m) (hbI : bI = b) :
    Calls Try.prog 51 #[.slice (some ⟨g, 0, none⟩) n c, .int .i64 aI, .int .i64 mI, .int .i64 bI, .func (.func 48) #[] #[.pointer (some ⟨(default : Ctx).mc, 0, none⟩)]] w (MergedI g w A [x] Y D) := by
  subst haI hmI hbI
  have hz := h.sz
  unfold reach at hz
  have hbn : b ≤ n := by have := h.ln; simp at this; omega
  have ham : ((m : Int) - (a : Int) == 1) = true := by simp; omega
  have HA := Lib.hid ha
  have HM := Lib.hid hm
  have hm1 : a < m := by omega
  have hmb : m ≤ b := by omega
  have HBq := Lib.hid hb
  have HH := Lib.hid h
  have HO := Lib.hid H
  have I0 : Hid (IsI g w (A ++ [x] ++ Y ++ D) w) := Lib.hid ⟨h.row, But.refl⟩
  clear h ha hm hb H
  go_enter Try.func51, Try.ntmps51
  go_wp2_with fail
  go_loopw [10, 11] (fun v10 v11 wr => ∃ (i j : Nat), v10 = .int .i64 i ∧ v11 = .int .i64 j ∧ m ≤ i ∧ i ≤ j ∧ j ≤ b ∧ (∀ (k : Nat) y, Y[k]? = some y → m + k < i → gapC y.1 x.1 < 0) ∧ (∀ (k : Nat) y, Y[k]? = some y → j ≤ m + k → ¬ gapC y.1 x.1 < 0) ∧ IsI g w (A ++ [x] ++ Y ++ D) wr) (fun v10 v11 _ => (intOf v11).toNat - (intOf v10).toNat)
  case atStart => exact ⟨m, b, rfl, rfl, Nat.le_refl _, hmb, Nat.le_refl _, fun k y _ hk => by omega, fun k y hy hk => by have := (List.getElem?_eq_some_iff.1 hy).1; have := HBq.out; omega, I0.out⟩
  case round =>
    obtain ⟨i, j, rfl, rfl, hmi, hij, hjb, hlo, hhi, I⟩ := hrel
    have HLo := Lib.hid hlo
    have HHi := Lib.hid hhi
    have J := Lib.hid I
    clear hlo hhi
    by_cases hlt : i < j
    · go_upto_region 5 with fail
      obtain ⟨h, hh⟩ : ∃ h : Nat, ((i : Int) + (j : Int)) / 2 = (h : Int) := ⟨(i + j) / 2, by omega⟩
      rw [hh]
      have h1 : i ≤ h := by omega
      have h2 : h < j := by omega
      clear hh
      obtain ⟨y, hyY⟩ : ∃ y, Y[h - m]? = some y := ⟨_, List.getElem?_eq_getElem (by have := HBq.out; omega)⟩
      have hy : (A ++ [x] ++ Y ++ D)[h]? = some y := by
        have hA := HA.out
        have hM := HM.out
        rw [List.append_assoc, List.getElem?_append_right (by simp; omega), List.getElem?_append_left (by have := (List.getElem?_eq_some_iff.1 hyY).1; simp; omega)]
        rw [show h - (A ++ [x]).length = h - m by simp; omega]
        exact hyY
      have hx : (A ++ [x] ++ Y ++ D)[a]? = some x := by
        rw [HA.out]
        simp
      have p0 : wr.cell? ⟨g, h, none⟩ = some (.int .i64 y.1) := I.row.cell hy 0 _ rfl
      have r0 : wr.cell? ⟨g, a, none⟩ = some (.int .i64 x.1) := I.row.cell hx 0 _ rfl
      have P0 : ∀ k : BW wr, k.val.cell? ⟨g, h, none⟩ = some (.int .i64 y.1) := fun k => k.cell p0
      have R0 : ∀ k : BW wr, k.val.cell? ⟨g, a, none⟩ = some (.int .i64 x.1) := fun k => k.cell r0
      have i0 : (0 : Int) ≤ (h : Int) := by omega
      have i1 : (h : Int) < (n : Int) := by omega
      have i2 : (0 : Int) ≤ (a : Int) := by omega
      have i3 : (a : Int) < (n : Int) := by omega
      have K1 : Hid (∀ k : BW wr, Calls Try.prog 48 #[aggI y, aggI x, .pointer (some ⟨(default : Ctx).mc, 0, none⟩)] k.val fun e w'' => e = .returned (.int .i64 (gapC y.1 x.1)) ∧ ∃ k : BW wr, w'' = k.val) := fun k =>
        Calls.bw (HH.out.cmp y x (by simp [List.mem_of_getElem? hyY]) (by simp) k.val (I.but.step k.below))
      have HY := Lib.hid hyY
      clear p0 r0 hx hy hyY I
      refine wp_region_bw (by kernel_rfl) (by kernel_rfl) ?_
      repeat (go_big_quiet_step (with_reducible exact K1.out _))
      refine wpQuiet_nil ?_
      rintro _ ⟨kw, rfl⟩
      have J2 := Lib.hid (J.out.step kw.below)
      clear P0 R0 K1 i0 i1 i2 i3
      generalize kw.val = w2 at *
      by_cases hc : gapC y.1 x.1 < 0
      · have HLo2 : Hid (∀ (k : Nat) z, Y[k]? = some z → m + k < h + 1 → gapC z.1 x.1 < 0) := fun k z hz hk => by
          by_cases e : k = h - m
          · subst e
            rw [HY.out] at hz
            cases hz
            exact hc
          · exact cm_le_lt HO.out (RT.le (pw_at HH.out.hY (by omega) hz HY.out)) hc
        go_wp2_with fail
        go_roundw
        case rel => exact ⟨h + 1, j, by go_num, rfl, by omega, by omega, hjb, HLo2.out, HHi.out, J2.out⟩
        case measure => simp [intOf]; omega
      · have HHi2 : Hid (∀ (k : Nat) z, Y[k]? = some z → h ≤ m + k → ¬ gapC z.1 x.1 < 0) := fun k z hz hk => by
          by_cases e : k = h - m
          · subst e
            rw [HY.out] at hz
            cases hz
            exact hc
          · have q1 := RT.le (pw_at HH.out.hY (by omega) HY.out hz)
            have q2 : gapC x.1 y.1 = -(gapC y.1 x.1) := HO.out.anti y.1 x.1
            have q3 : gapC x.1 z.1 ≤ 0 := cm_le_le HO.out (y := y.1) (show gapC x.1 y.1 ≤ 0 by omega) q1
            have q4 : gapC z.1 x.1 = -(gapC x.1 z.1) := HO.out.anti x.1 z.1
            omega
        go_wp2_with fail
        go_roundw
        case rel => exact ⟨i, h, rfl, rfl, hmi, h1, by omega, HLo.out, HHi2.out, J2.out⟩
        case measure => simp [intOf]; omega
    · obtain rfl : i = j := by omega
      obtain ⟨Y1, Y2, hYY, hY1⟩ : ∃ Y1 Y2, Y = Y1 ++ Y2 ∧ Y1.length = i - m := ⟨Y.take (i - m), Y.drop (i - m), (List.take_append_drop _ Y).symm, by rw [List.length_take]; have := HBq.out; omega⟩
      have HS : Hid (Sorted (fun p q : Int => gapC p q) ([x] ++ Y) (Y1 ++ x :: Y2)) := by
        have hp := HH.out.hY
        have ht := HH.out.hT x (by simp)
        rw [hYY] at hp ht
        rw [Hid, hYY]
        refine merge_one HO.out hp ht (fun y hy => ?_) (fun y hy => ?_)
        · obtain ⟨k, hk⟩ := List.getElem?_of_mem hy
          have hkl := (List.getElem?_eq_some_iff.1 hk).1
          exact HLo.out k y (by rw [hYY, List.getElem?_append_left hkl]; exact hk) (by omega)
        · obtain ⟨k, hk⟩ := List.getElem?_of_mem hy
          exact HHi.out (Y1.length + k) y (by rw [hYY, List.getElem?_append_right (by omega)]; simpa using hk) (by omega)
      have HYY := Lib.hid hYY
      have HY1 := Lib.hid hY1
      clear hYY hY1 I HLo HHi
      go_wp2_with fail
      go_loopw [13] (fun v13 wr => ∃ (k : Nat) (P1 P2 : List (Int × Nat)), v13 = .int .i64 k ∧ k = a + P1.length ∧ Y1 = P1 ++ P2 ∧ IsI g w (A ++ (P1 ++ x :: P2) ++ (Y2 ++ D)) wr) (fun v13 _ => n - (intOf v13).toNat)
      case atStart =>
        refine ⟨a, [], Y1, rfl, rfl, rfl, ?_⟩
        have := J.out
        rw [HYY.out] at this
        simpa using this
      case round =>
        obtain ⟨k, P1, P2, rfl, hk, hPP, I⟩ := hrel
        have HPP := Lib.hid hPP
        have HK := Lib.hid hk
        have J2 := Lib.hid I
        have hkl : P1.length ≤ i - m := by rw [← HY1.out, hPP]; simp
        by_cases hlt2 : k < i - 1
        · obtain ⟨y, P3, hP3⟩ : ∃ y P3, P2 = y :: P3 := by
            cases P2 with
            | nil => have h1 := HY1.out; rw [hPP] at h1; simp at h1; have := HM.out; omega
            | cons y P3 => exact ⟨y, P3, rfl⟩
          subst hP3
          have hkA : k = A.length + P1.length := by rw [hk, HA.out]
          have HX : Hid ((A ++ (P1 ++ x :: y :: P3) ++ (Y2 ++ D))[k]? = some x) := by rw [Hid, hkA]; simp
          have HYk : Hid ((A ++ (P1 ++ x :: y :: P3) ++ (Y2 ++ D))[k + 1]? = some y) := by
            rw [Hid, hkA, show A ++ (P1 ++ x :: y :: P3) ++ (Y2 ++ D) = (A ++ P1 ++ [x]) ++ y :: (P3 ++ (Y2 ++ D)) by simp, List.getElem?_append_right (by simp; omega), show A.length + P1.length + 1 - (A ++ P1 ++ [x]).length = 0 by simp; omega]
            rfl
          have HSw : Hid (((A ++ (P1 ++ x :: y :: P3) ++ (Y2 ++ D)).set k y).set (k + 1) x = A ++ ((P1 ++ [y]) ++ x :: P3) ++ (Y2 ++ D)) := by
            rw [Hid, hkA]
            exact swap3_list A P1 P3 (Y2 ++ D) x y
          have hkn : k + 1 < n := by omega
          have p0 : wr.cell? ⟨g, k, none⟩ = some (.int .i64 x.1) := J2.out.row.cell HX.out 0 _ rfl
          have r0 : wr.cell? ⟨g, (k + 1), none⟩ = some (.int .i64 y.1) := J2.out.row.cell HYk.out 0 _ rfl
          have z := SRowI.frozen J2.out.row
          clear hk hPP I hkA hkl
          go_upto_region 11 with fail
          go_region
          all_goals
            clear p0 r0 z
            go_wp2_with fail
            refine ⟨⟨k + 1, P1 ++ [y], P3, by go_num, by rw [HK.out]; simp; omega, by rw [HPP.out]; simp, ?_⟩, by simp [intOf]; omega⟩
            have r1 := J2.out.swap2 (List.getElem?_eq_some_iff.1 HX.out).1 (List.getElem?_eq_some_iff.1 HYk.out).1 x y
            rw [HSw.out] at r1
            exact r1
        · have HE : Hid (IsI g w (A ++ (Y1 ++ x :: Y2) ++ D) wr) := by
            have e : P2 = [] := List.eq_nil_of_length_eq_zero (by have h1 := HY1.out; rw [hPP] at h1; simp at h1; have := HM.out; omega)
            rw [e, List.append_nil] at hPP
            rw [e] at I
            rw [Hid, hPP]
            simpa using I
          clear hk hPP I hkl
          go_wp2_with fail
          go_end0
          exact ⟨rfl, _, HS.out, HE.out⟩

theorem merge_last {α : Type} {cm : α → α → Int} (H : Ordered cm) {y : α × Nat} {X1 X2 : List (α × Nat)} (hX : (X1 ++ X2).Pairwise (RT cm)) (ht : ∀ x ∈ X1 ++ X2, x.2 < y.2) (h1 : ∀ x ∈ X1, ¬ cm y.1 x.1 < 0) (h2 : ∀ x ∈ X2, cm y.1 x.1 < 0) : Sorted cm ((X1 ++ X2) ++ [y]) (X1 ++ y :: X2) := by
  refine ⟨List.perm_middle.trans (List.perm_append_singleton y _).symm, ?_⟩
  rw [List.pairwise_append] at hX ⊢
  refine ⟨hX.1, List.pairwise_cons.2 ⟨fun x hx => .inl (h2 x hx), hX.2.1⟩, fun x hx z hz => ?_⟩
  rcases List.mem_cons.1 hz with rfl | hz
  · unfold RT
    have := h1 x hx
    have := H.anti z.1 x.1
    have := ht x (by simp [hx])
    omega
  · exact hX.2.2 x hx z hz

set_option maxRecDepth 100000 in
set_option maxHeartbeats 4000000 in
theorem sym2I (H : Ordered (fun p q : Int => gapC p q)) (A X : List (Int × Nat)) (y : Int × Nat) (D : List (Int × Nat)) (g n c a m b : Nat) (aI mI bI : Int) (w : World) (h : HalvesI A X [y] D g n w)
    (ha : a = A.length) (hm : m = a + X.length) (hb : b = m + 1) (hX2 : 2 ≤ X.length) (haI : aI = a) (hmI : mI = m) (hbI : bI = b) :
    Calls Try.prog 51 #[.slice (some ⟨g, 0, none⟩) n c, .int .i64 aI, .int .i64 mI, .int .i64 bI, .func (.func 48) #[] #[.pointer (some ⟨(default : Ctx).mc, 0, none⟩)]] w (MergedI g w A X [y] D) := by
  subst haI hmI hbI
  have hz := h.sz
  unfold reach at hz
  have hbn : b ≤ n := by have := h.ln; simp at this; omega
  have ham : ((m : Int) - (a : Int) == 1) = false := by simp; omega
  have hbm : ((b : Int) - (m : Int) == 1) = true := by simp; omega
  have HA := Lib.hid ha
  have HM := Lib.hid hm
  have hm1 : a ≤ m := by omega
  have hmb : m < b := by omega
  have HH := Lib.hid h
  have HO := Lib.hid H
  have I0 : Hid (IsI g w (A ++ X ++ [y] ++ D) w) := Lib.hid ⟨h.row, But.refl⟩
  clear h ha hm hb H
  go_enter Try.func51, Try.ntmps51
  go_wp2_with fail
  go_loopw [14, 15] (fun v14 v15 wr => ∃ (i j : Nat), v14 = .int .i64 i ∧ v15 = .int .i64 j ∧ a ≤ i ∧ i ≤ j ∧ j ≤ m ∧ (∀ (k : Nat) x, X[k]? = some x → a + k < i → ¬ gapC y.1 x.1 < 0) ∧ (∀ (k : Nat) x, X[k]? = some x → j ≤ a + k → gapC y.1 x.1 < 0) ∧ IsI g w (A ++ X ++ [y] ++ D) wr) (fun v14 v15 _ => (intOf v15).toNat - (intOf v14).toNat)
  case atStart => exact ⟨a, m, rfl, rfl, Nat.le_refl _, hm1, Nat.le_refl _, fun k y _ hk => by omega, fun k y hy hk => by have := (List.getElem?_eq_some_iff.1 hy).1; have := HM.out; omega, I0.out⟩
  case round =>
    obtain ⟨i, j, rfl, rfl, hmi, hij, hjb, hlo, hhi, I⟩ := hrel
    have HLo := Lib.hid hlo
    have HHi := Lib.hid hhi
    have J := Lib.hid I
    clear hlo hhi
    by_cases hlt : i < j
    · go_upto_region 17 with fail
      obtain ⟨h, hh⟩ : ∃ h : Nat, ((i : Int) + (j : Int)) / 2 = (h : Int) := ⟨(i + j) / 2, by omega⟩
      rw [hh]
      have h1 : i ≤ h := by omega
      have h2 : h < j := by omega
      clear hh
      obtain ⟨x, hxX⟩ : ∃ x, X[h - a]? = some x := ⟨_, List.getElem?_eq_getElem (by have := HM.out; omega)⟩
      have hx : (A ++ X ++ [y] ++ D)[h]? = some x := by
        have hA := HA.out
        rw [List.append_assoc, List.append_assoc, List.getElem?_append_right (by omega), List.getElem?_append_left (by have := (List.getElem?_eq_some_iff.1 hxX).1; omega), ← hA]
        exact hxX
      have hy : (A ++ X ++ [y] ++ D)[m]? = some y := by
        have hA := HA.out
        have hM := HM.out
        rw [List.append_assoc, List.getElem?_append_right (by simp; omega), show m - (A ++ X).length = 0 by simp; omega]
        rfl
      have p0 : wr.cell? ⟨g, h, none⟩ = some (.int .i64 x.1) := I.row.cell hx 0 _ rfl
      have r0 : wr.cell? ⟨g, m, none⟩ = some (.int .i64 y.1) := I.row.cell hy 0 _ rfl
      have P0 : ∀ k : BW wr, k.val.cell? ⟨g, h, none⟩ = some (.int .i64 x.1) := fun k => k.cell p0
      have R0 : ∀ k : BW wr, k.val.cell? ⟨g, m, none⟩ = some (.int .i64 y.1) := fun k => k.cell r0
      have i0 : (0 : Int) ≤ (h : Int) := by omega
      have i1 : (h : Int) < (n : Int) := by omega
      have i2 : (0 : Int) ≤ (m : Int) := by omega
      have i3 : (m : Int) < (n : Int) := by omega
      have K1 : Hid (∀ k : BW wr, Calls Try.prog 48 #[aggI y, aggI x, .pointer (some ⟨(default : Ctx).mc, 0, none⟩)] k.val fun e w'' => e = .returned (.int .i64 (gapC y.1 x.1)) ∧ ∃ k : BW wr, w'' = k.val) := fun k =>
        Calls.bw (HH.out.cmp y x (by simp) (by simp [List.mem_of_getElem? hxX]) k.val (I.but.step k.below))
      have HY := Lib.hid hxX
      clear p0 r0 hx hy hxX I
      refine wp_region_bw (by kernel_rfl) (by kernel_rfl) ?_
      repeat (go_big_quiet_step (with_reducible exact K1.out _))
      refine wpQuiet_nil ?_
      rintro _ ⟨kw, rfl⟩
      have J2 := Lib.hid (J.out.step kw.below)
      clear P0 R0 K1 i0 i1 i2 i3
      generalize kw.val = w2 at *
      by_cases hc : gapC y.1 x.1 < 0
      · have HHi2 : Hid (∀ (k : Nat) z, X[k]? = some z → h ≤ a + k → gapC y.1 z.1 < 0) := fun k z hz hk => by
          by_cases e : k = h - a
          · subst e
            rw [HY.out] at hz
            cases hz
            exact hc
          · exact cm_lt_le HO.out (y := x.1) hc (RT.le (pw_at HH.out.hX (by omega) HY.out hz))
        have d4 : (!decide (gapC y.1 x.1 < 0)) = false := by rw [decide_eq_true hc]; rfl
        go_wp2_with fail
        all_goals first | (rename_i e; rw [d4] at e; contradiction) | skip
        go_roundw
        case rel => exact ⟨i, h, rfl, rfl, hmi, h1, by omega, HLo.out, HHi2.out, J2.out⟩
        case measure => simp [intOf]; omega
      · have HLo2 : Hid (∀ (k : Nat) z, X[k]? = some z → a + k < h + 1 → ¬ gapC y.1 z.1 < 0) := fun k z hz hk => by
          by_cases e : k = h - a
          · subst e
            rw [HY.out] at hz
            cases hz
            exact hc
          · have q1 := RT.le (pw_at HH.out.hX (by omega) hz HY.out)
            have q2 : gapC x.1 y.1 = -(gapC y.1 x.1) := HO.out.anti y.1 x.1
            have q3 : gapC z.1 y.1 ≤ 0 := cm_le_le HO.out (y := x.1) q1 (show gapC x.1 y.1 ≤ 0 by omega)
            have q4 : gapC y.1 z.1 = -(gapC z.1 y.1) := HO.out.anti z.1 y.1
            omega
        have d4 : (!decide (gapC y.1 x.1 < 0)) = true := by rw [decide_eq_false hc]; rfl
        go_wp2_with fail
        all_goals first | (rename_i e; rw [d4] at e; contradiction) | skip
        go_roundw
        case rel => exact ⟨h + 1, j, by go_num, rfl, by omega, by omega, hjb, HLo2.out, HHi.out, J2.out⟩
        case measure => simp [intOf]; omega
    · obtain rfl : i = j := by omega
      obtain ⟨X1, X2, hXX, hX1⟩ : ∃ X1 X2, X = X1 ++ X2 ∧ X1.length = i - a := ⟨X.take (i - a), X.drop (i - a), (List.take_append_drop _ X).symm, by rw [List.length_take]; have := HM.out; omega⟩
      have HS : Hid (Sorted (fun p q : Int => gapC p q) (X ++ [y]) (X1 ++ y :: X2)) := by
        have hp := HH.out.hX
        have ht : ∀ x ∈ X, x.2 < y.2 := fun x hx => HH.out.hT x hx y (by simp)
        rw [hXX] at hp ht
        rw [Hid, hXX]
        refine merge_last HO.out hp ht (fun x hx => ?_) (fun x hx => ?_)
        · obtain ⟨k, hk⟩ := List.getElem?_of_mem hx
          have hkl := (List.getElem?_eq_some_iff.1 hk).1
          exact HLo.out k x (by rw [hXX, List.getElem?_append_left hkl]; exact hk) (by omega)
        · obtain ⟨k, hk⟩ := List.getElem?_of_mem hx
          exact HHi.out (X1.length + k) x (by rw [hXX, List.getElem?_append_right (by omega)]; simpa using hk) (by omega)
      have HXX := Lib.hid hXX
      have HX1 := Lib.hid hX1
      have hX2l : X2.length = m - i := by have h1 := HM.out; rw [hXX] at h1; simp at h1; omega
      have HX2 := Lib.hid hX2l
      clear hXX hX1 I HLo HHi hX2l
      go_wp2_with fail
      go_loopw [17] (fun v17 wr => ∃ (k : Nat) (P1 P2 : List (Int × Nat)), v17 = .int .i64 k ∧ k = i + P1.length ∧ X2 = P1 ++ P2 ∧ IsI g w ((A ++ X1) ++ (P1 ++ y :: P2) ++ D) wr) (fun v17 _ => (intOf v17).toNat)
      case atStart =>
        refine ⟨m, X2, [], rfl, by have := HX2.out; omega, by simp, ?_⟩
        have := J.out
        rw [HXX.out] at this
        simpa using this
      case round =>
        obtain ⟨k, P1, P2, rfl, hk, hPP, I⟩ := hrel
        have HPP := Lib.hid hPP
        have HK := Lib.hid hk
        have J2 := Lib.hid I
        have hkm : k ≤ m := by have h1 := HX2.out; rw [hPP] at h1; simp at h1; omega
        by_cases hlt2 : i < k
        · obtain ⟨P0, z, hP0⟩ : ∃ P0 z, P1 = P0 ++ [z] := by
            rcases List.eq_nil_or_concat P1 with h | ⟨P0, z, h⟩
            · rw [h] at hk; simp at hk; omega
            · exact ⟨P0, z, by rw [h, List.concat_eq_append]⟩
          have hkA : k = (A ++ X1).length + (P0.length + 1) := by rw [hk, hP0]; have := HX1.out; have := HA.out; simp; omega
          have HYk : Hid (((A ++ X1) ++ (P1 ++ y :: P2) ++ D)[k]? = some y) := by
            rw [Hid, hP0, hkA, show (A ++ X1) ++ ((P0 ++ [z]) ++ y :: P2) ++ D = (A ++ X1 ++ P0 ++ [z]) ++ y :: (P2 ++ D) by simp, List.getElem?_append_right (by simp; omega), show (A ++ X1).length + (P0.length + 1) - (A ++ X1 ++ P0 ++ [z]).length = 0 by simp; omega]
            rfl
          have HZk : Hid (((A ++ X1) ++ (P1 ++ y :: P2) ++ D)[k - 1]? = some z) := by
            rw [Hid, hP0, hkA, show (A ++ X1) ++ ((P0 ++ [z]) ++ y :: P2) ++ D = (A ++ X1 ++ P0) ++ z :: (y :: (P2 ++ D)) by simp, List.getElem?_append_right (by simp; omega), show (A ++ X1).length + (P0.length + 1) - 1 - (A ++ X1 ++ P0).length = 0 by simp; omega]
            rfl
          have HSw : Hid ((((A ++ X1) ++ (P1 ++ y :: P2) ++ D).set k z).set (k - 1) y = (A ++ X1) ++ (P0 ++ y :: z :: P2) ++ D) := by
            rw [Hid, hP0, hkA]
            exact swap_list (A ++ X1) P0 P2 D y z
          have HP0 := Lib.hid hP0
          have hk1 : 1 ≤ k := by omega
          have p0 : wr.cell? ⟨g, k, none⟩ = some (.int .i64 y.1) := J2.out.row.cell HYk.out 0 _ rfl
          have r0 : wr.cell? ⟨g, (k - 1), none⟩ = some (.int .i64 z.1) := J2.out.row.cell HZk.out 0 _ rfl
          have zf := SRowI.frozen J2.out.row
          clear hk hPP I hkA hP0
          go_upto_region 23 with fail
          go_region
          all_goals
            clear p0 r0 zf
            go_wp2_with fail
            refine ⟨⟨k - 1, P0, z :: P2, by rw [show ((k - 1 : Nat) : Int) = (k : Int) - 1 by omega], by have h1 := HK.out; rw [HP0.out] at h1; simp at h1; omega, by rw [HPP.out, HP0.out]; simp, ?_⟩, by simp [intOf]; omega⟩
            have r1 := J2.out.swap (List.getElem?_eq_some_iff.1 HYk.out).1 y z
            rw [HSw.out] at r1
            exact r1
        · have HE : Hid (IsI g w (A ++ (X1 ++ y :: X2) ++ D) wr) := by
            have e : P1 = [] := List.eq_nil_of_length_eq_zero (by omega)
            rw [e, List.nil_append] at hPP
            rw [e] at I
            rw [Hid, hPP]
            simpa using I
          clear hk hPP I
          go_wp2_with fail
          go_end0
          exact ⟨rfl, _, HS.out, HE.out⟩

end Go.Proofs.Ytefolbfopjfbcaa
