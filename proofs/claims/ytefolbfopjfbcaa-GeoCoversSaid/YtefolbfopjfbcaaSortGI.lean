/- The library's symMerge at one element type: every case. (Printed by gen_sort4.py I.) -/
import Derived.Test.YtefolbfopjfbcaaSortMI
namespace Go.Proofs.Ytefolbfopjfbcaa
open Go.RowKit
set_option linter.unusedSectionVars false
variable [Inhabited Ctx]

section
variable {α : Type} {cm : α → α → Int}
theorem at_le (H : Ordered cm) {l : List (α × Nat)} (h : l.Pairwise (RT cm)) {i j : Nat} {x y : α × Nat} (hij : i ≤ j) (hx : l[i]? = some x) (hy : l[j]? = some y) : cm x.1 y.1 ≤ 0 := by
  by_cases e : i = j
  · subst e
    rw [hx] at hy
    cases hy
    have := H.anti x.1 x.1
    omega
  · exact RT.le (pw_at h (by omega) hx hy)
theorem split_sorted {X1 X2 Y1 Y2 S1 S2 : List (α × Nat)} (hX : (X1 ++ X2).Pairwise (RT cm)) (hY : (Y1 ++ Y2).Pairwise (RT cm)) (h12 : ∀ x ∈ X1, ∀ y ∈ Y2, RT cm x y) (h21 : ∀ y ∈ Y1, ∀ x ∈ X2, RT cm y x)
    (h1 : Sorted cm (X1 ++ Y1) S1) (h2 : Sorted cm (X2 ++ Y2) S2) : Sorted cm ((X1 ++ X2) ++ (Y1 ++ Y2)) (S1 ++ S2) := by
  refine ⟨(h1.1.append h2.1).trans ?_, List.pairwise_append.2 ⟨h1.2, h2.2, fun u hu v hv => ?_⟩⟩
  · rw [List.append_assoc, List.append_assoc]
    refine List.Perm.append_left X1 ?_
    rw [← List.append_assoc, ← List.append_assoc]
    exact List.Perm.append_right Y2 List.perm_append_comm
  · rcases List.mem_append.1 (h1.1.mem_iff.1 hu) with hu | hu <;> rcases List.mem_append.1 (h2.1.mem_iff.1 hv) with hv | hv
    · exact (List.pairwise_append.1 hX).2.2 u hu v hv
    · exact h12 u hu v hv
    · exact h21 u hu v hv
    · exact (List.pairwise_append.1 hY).2.2 u hu v hv
theorem atX {A X Y D : List (α × Nat)} {i : Nat} (h1 : A.length ≤ i) (h2 : i < A.length + X.length) : (A ++ X ++ Y ++ D)[i]? = X[i - A.length]? := by
  rw [List.append_assoc, List.append_assoc, List.getElem?_append_right h1, List.getElem?_append_left (by omega)]
theorem atY {A X Y D : List (α × Nat)} {i : Nat} (h1 : A.length + X.length ≤ i) (h2 : i < A.length + X.length + Y.length) : (A ++ X ++ Y ++ D)[i]? = Y[i - (A.length + X.length)]? := by
  rw [List.append_assoc, List.getElem?_append_right (by simp; omega), List.getElem?_append_left (by simp; omega)]
  simp
theorem sym_parts (H : Ordered cm) {A X Y D : List (α × Nat)} {a m b mid s0 r0 t : Nat} (ha : a = A.length) (hm : m = a + X.length) (hb : b = m + Y.length) (hX : X.Pairwise (RT cm)) (hY : Y.Pairwise (RT cm)) (hT : ∀ x ∈ X, ∀ y ∈ Y, x.2 < y.2)
    (hs : s0 ≤ t) (hr : t ≤ r0) (hmid : mid = (a + b) / 2) (hc : (mid < m ∧ s0 = mid + m - b ∧ r0 = mid) ∨ (m ≤ mid ∧ s0 = a ∧ r0 = m))
    (lo : t = s0 ∨ ∃ x y, (A ++ X ++ Y ++ D)[t - 1]? = some x ∧ (A ++ X ++ Y ++ D)[mid + m - t]? = some y ∧ ¬ cm y.1 x.1 < 0)
    (hi : t = r0 ∨ ∃ x y, (A ++ X ++ Y ++ D)[t]? = some x ∧ (A ++ X ++ Y ++ D)[mid + m - 1 - t]? = some y ∧ cm y.1 x.1 < 0) :
    ∃ X1 X2 Y1 Y2, X = X1 ++ X2 ∧ Y = Y1 ++ Y2 ∧ X1.length = t - a ∧ X2.length = m - t ∧ Y1.length = mid - t ∧ Y2.length = b + t - (mid + m) ∧ (∀ x ∈ X1, ∀ y ∈ Y2, RT cm x y) ∧ (∀ y ∈ Y1, ∀ x ∈ X2, RT cm y x) := by
  have HLo := Lib.hid lo
  have HHi := Lib.hid hi
  clear lo hi
  have l1 : (X.take (t - a)).length = t - a := by rw [List.length_take]; omega
  have l2 : (X.drop (t - a)).length = m - t := by rw [List.length_drop]; omega
  have l3 : (Y.take (mid - t)).length = mid - t := by rw [List.length_take]; omega
  have l4 : (Y.drop (mid - t)).length = b + t - (mid + m) := by rw [List.length_drop]; omega
  refine ⟨_, _, _, _, (List.take_append_drop (t - a) X).symm, (List.take_append_drop (mid - t) Y).symm, l1, l2, l3, l4, fun x hx y hy => ?_, fun y hy x hx => ?_⟩
  · obtain ⟨k, hk⟩ := List.getElem?_of_mem hx
    obtain ⟨k', hk'⟩ := List.getElem?_of_mem hy
    have q1 := (List.getElem?_eq_some_iff.1 hk).1
    have q2 := (List.getElem?_eq_some_iff.1 hk').1
    rw [List.getElem?_take_of_lt (by omega)] at hk
    rw [List.getElem?_drop] at hk'
    have ht := hT x (List.mem_of_getElem? hk) y (List.mem_of_getElem? hk')
    rcases HLo.out with lo | ⟨x0, y0, e1, e2, e3⟩
    · omega
    · rw [atX (by omega) (by omega)] at e1
      rw [atY (by omega) (by omega)] at e2
      have r1 := at_le H hX (by omega) hk e1
      have r2 := at_le H hY (by omega) e2 hk'
      have r3 := H.anti y0.1 x0.1
      have r4 := cm_le_le H r1 (show cm x0.1 y0.1 ≤ 0 by omega)
      have r5 := cm_le_le H r4 r2
      unfold RT
      omega
  · obtain ⟨k, hk⟩ := List.getElem?_of_mem hx
    obtain ⟨k', hk'⟩ := List.getElem?_of_mem hy
    have q1 := (List.getElem?_eq_some_iff.1 hk).1
    have q2 := (List.getElem?_eq_some_iff.1 hk').1
    rw [List.getElem?_drop] at hk
    rw [List.getElem?_take_of_lt (by omega)] at hk'
    rcases HHi.out with hi | ⟨x0, y0, e1, e2, e3⟩
    · omega
    · rw [atX (by omega) (by omega)] at e1
      rw [atY (by omega) (by omega)] at e2
      have r1 := at_le H hX (by omega) e1 hk
      have r2 := at_le H hY (by omega) hk' e2
      exact .inl (cm_lt_le H (cm_le_lt H r2 e3) r1)
end

theorem CmpOkI.less {g : Nat} {w w1 : World} {U U' : List (Int × Nat)} (h : CmpOkI g w U) (hb : But g w w1) (hs : ∀ x ∈ U', x ∈ U) : CmpOkI g w1 U' := fun x y hx hy wr hr => h x y (hs x hx) (hs y hy) wr (hb.trans hr)
theorem halfIL {A X1 X2 Y1 Y2 D : List (Int × Nat)} {g n : Nat} {w w1 : World} (h : HalvesI A (X1 ++ X2) (Y1 ++ Y2) D g n w) (I : IsI g w (A ++ X1 ++ Y1 ++ X2 ++ Y2 ++ D) w1) : HalvesI A X1 Y1 (X2 ++ Y2 ++ D) g n w1 :=
  ⟨by have := I.row; simpa using this, by rw [h.ln]; simp; omega, h.sz, (List.pairwise_append.1 h.hX).1, (List.pairwise_append.1 h.hY).1, fun x hx y hy => h.hT x (by simp [hx]) y (by simp [hy]), h.cmp.less I.but (fun x hx => by rcases List.mem_append.1 hx with hx | hx <;> simp [hx])⟩
theorem halfIR {A X1 X2 Y1 Y2 D S1 : List (Int × Nat)} {g n : Nat} {w w1 : World} (h : HalvesI A (X1 ++ X2) (Y1 ++ Y2) D g n w) (hl : S1.length = X1.length + Y1.length) (I : IsI g w (A ++ S1 ++ (X2 ++ Y2 ++ D)) w1) : HalvesI (A ++ S1) X2 Y2 D g n w1 :=
  ⟨by have := I.row; simpa using this, by rw [h.ln]; simp; omega, h.sz, (List.pairwise_append.1 h.hX).2.1, (List.pairwise_append.1 h.hY).2.1, fun x hx y hy => h.hT x (by simp [hx]) y (by simp [hy]), h.cmp.less I.but (fun x hx => by rcases List.mem_append.1 hx with hx | hx <;> simp [hx])⟩
theorem sorted_self {α : Type} {cm : α → α → Int} {l : List (α × Nat)} (h : l.Pairwise (RT cm)) : Sorted cm l l := ⟨List.Perm.refl _, h⟩

def SymOkI (N : Nat) : Prop := ∀ (A X Y D : List (Int × Nat)) (g n c a m b : Nat) (aI mI bI : Int) (w : World), HalvesI A X Y D g n w → a = A.length → m = a + X.length → b = m + Y.length → 1 ≤ X.length → 1 ≤ Y.length → X.length + Y.length < N → aI = a → mI = m → bI = b →
    Calls Try.prog 51 #[.slice (some ⟨g, 0, none⟩) n c, .int .i64 aI, .int .i64 mI, .int .i64 bI, .func (.func 48) #[] #[.pointer (some ⟨(default : Ctx).mc, 0, none⟩)]] w (MergedI g w A X Y D)
def LoI (L : List (Int × Nat)) (s0 nn t : Nat) : Prop := t = s0 ∨ ∃ x y, L[t - 1]? = some x ∧ L[nn - t]? = some y ∧ ¬ gapC y.1 x.1 < 0
def HiI (L : List (Int × Nat)) (r0 nn t : Nat) : Prop := t = r0 ∨ ∃ x y, L[t]? = some x ∧ L[nn - 1 - t]? = some y ∧ gapC y.1 x.1 < 0

set_option maxRecDepth 100000 in
set_option maxHeartbeats 4000000 in
theorem sym3I (H : Ordered (fun p q : Int => gapC p q)) (A X Y D : List (Int × Nat)) (g n c a m b : Nat) (aI mI bI : Int) (w : World) (h : HalvesI A X Y D g n w)
    (ha : a = A.length) (hm : m = a + X.length) (hb : b = m + Y.length) (hX2 : 2 ≤ X.length) (hY2 : 2 ≤ Y.length) (ih : SymOkI (X.length + Y.length)) (haI : aI = a) (hmI : mI = m) (hbI : bI = b) :
    Calls Try.prog 51 #[.slice (some ⟨g, 0, none⟩) n c, .int .i64 aI, .int .i64 mI, .int .i64 bI, .func (.func 48) #[] #[.pointer (some ⟨(default : Ctx).mc, 0, none⟩)]] w (MergedI g w A X Y D) := by
  subst haI hmI hbI
  have hz := h.sz
  unfold reach at hz
  have hbn : b ≤ n := by have := h.ln; simp at this; omega
  have ham : ((m : Int) - (a : Int) == 1) = false := by simp; omega
  have hbm : ((b : Int) - (m : Int) == 1) = false := by simp; omega
  have HA := Lib.hid ha
  have HM := Lib.hid hm
  have HB := Lib.hid hb
  have hm1 : a + 2 ≤ m := by omega
  have hmb : m + 2 ≤ b := by omega
  have HH := Lib.hid h
  have HO := Lib.hid H
  have HI := Lib.hid ih
  have I0 : Hid (IsI g w (A ++ X ++ Y ++ D) w) := Lib.hid ⟨h.row, But.refl⟩
  clear h ha hm hb H ih hX2 hY2
  go_enter Try.func51, Try.ntmps51
  go_upto_region 25 with fail
  obtain ⟨mid, hh⟩ : ∃ mid : Nat, ((a : Int) + (b : Int)) / 2 = (mid : Int) := ⟨(a + b) / 2, by omega⟩
  rw [hh]
  have HMid : Hid (mid = (a + b) / 2) := by unfold Hid; omega
  have hmid1 : a < mid := by omega
  have hmid2 : mid < b := by omega
  have hmid3 : 2 * mid ≤ a + b := by omega
  have hmid4 : a + b ≤ 2 * mid + 1 := by omega
  clear hh
  obtain ⟨s0, r0, hc⟩ : ∃ s0 r0 : Nat, (mid < m ∧ s0 = mid + m - b ∧ r0 = mid) ∨ (m ≤ mid ∧ s0 = a ∧ r0 = m) := by
    by_cases e : mid < m
    · exact ⟨_, _, .inl ⟨e, rfl, rfl⟩⟩
    · exact ⟨_, _, .inr ⟨by omega, rfl, rfl⟩⟩
  have HC := Lib.hid hc
  have hs1 : a ≤ s0 := by omega
  have hs2 : s0 ≤ r0 := by omega
  have hr1 : r0 ≤ m := by omega
  have hr2 : r0 ≤ mid := by omega
  have hs3 : mid + m ≤ b + s0 := by omega
  clear hc
  go_upto_region 26 with fail
  obtain ⟨p, hp⟩ : ∃ p : Nat, mid + m = p + 1 := ⟨mid + m - 1, by omega⟩
  have HP := Lib.hid hp
  have hp1 : p + 1 ≤ b + s0 := by omega
  have hp2 : m + r0 ≤ p + 1 := by omega
  rw [show (mid : Int) + (m : Int) = (p : Int) + 1 by omega]
  clear hp
  go_upto_if 140 with fail
  go_cut [20, 21] (fun s20 s21 wx => s20 = .int .i64 s0 ∧ s21 = .int .i64 r0 ∧ w = wx)
  case first => as_aux_lemma =>
    rcases HC.out with ⟨q1, q2, q3⟩ | ⟨q1, q2, q3⟩
    all_goals
      have Q2 := Lib.hid q2
      have Q3 := Lib.hid q3
      clear q2 q3
      go_wp2_with fail
      go_meet
      exact ⟨congrArg (Value.int .i64) (by have := Q2.out; have := HP.out; omega), congrArg (Value.int .i64) (by have := Q3.out; omega), rfl⟩
  case rest =>
    obtain ⟨rfl, rfl, rfl⟩ := hcut
    go_wp2_with fail
    go_loopw [20, 21] (fun v20 v21 wr => ∃ (i j : Nat), v20 = .int .i64 i ∧ v21 = .int .i64 j ∧ s0 ≤ i ∧ i ≤ j ∧ j ≤ r0 ∧ LoI (A ++ X ++ Y ++ D) s0 (p + 1) i ∧ HiI (A ++ X ++ Y ++ D) r0 (p + 1) j ∧ IsI g w (A ++ X ++ Y ++ D) wr) (fun v20 v21 _ => (intOf v21).toNat - (intOf v20).toNat)
    case atStart => exact ⟨s0, r0, rfl, rfl, Nat.le_refl _, hs2, Nat.le_refl _, .inl rfl, .inl rfl, I0.out⟩
    case round =>
      obtain ⟨i, j, rfl, rfl, hmi, hij, hjb, hlo, hhi, I⟩ := hrel
      have HLo := Lib.hid hlo
      have HHi := Lib.hid hhi
      have J := Lib.hid I
      clear hlo hhi
      by_cases hlt : i < j
      · as_aux_lemma =>
        go_upto_region 35 with fail
        obtain ⟨h, hh⟩ : ∃ h : Nat, ((i : Int) + (j : Int)) / 2 = (h : Int) := ⟨(i + j) / 2, by omega⟩
        rw [hh]
        have h1 : i ≤ h := by omega
        have h2 : h < j := by omega
        clear hh
        obtain ⟨x, hx, hxX⟩ : ∃ x, (A ++ X ++ Y ++ D)[h]? = some x ∧ x ∈ X := by
          have hA := HA.out
          have hM := HM.out
          rw [atX (by omega) (by omega)]
          exact ⟨_, List.getElem?_eq_getElem (by omega), List.getElem_mem _⟩
        obtain ⟨y, hy, hyY⟩ : ∃ y, (A ++ X ++ Y ++ D)[p - h]? = some y ∧ y ∈ Y := by
          have hA := HA.out
          have hM := HM.out
          have hB := HB.out
          rw [atY (by omega) (by omega)]
          exact ⟨_, List.getElem?_eq_getElem (by omega), List.getElem_mem _⟩
        have p0 : wr.cell? ⟨g, h, none⟩ = some (.int .i64 x.1) := I.row.cell hx 0 _ rfl
        have r0 : wr.cell? ⟨g, (p - h), none⟩ = some (.int .i64 y.1) := I.row.cell hy 0 _ rfl
        have P0 : ∀ k : BW wr, k.val.cell? ⟨g, h, none⟩ = some (.int .i64 x.1) := fun k => k.cell p0
        have R0 : ∀ k : BW wr, k.val.cell? ⟨g, (p - h), none⟩ = some (.int .i64 y.1) := fun k => k.cell r0
        have i0 : (0 : Int) ≤ (h : Int) := by omega
        have i1 : (h : Int) < (n : Int) := by omega
        have i2 : (0 : Int) ≤ (p : Int) - (h : Int) := by omega
        have i3 : (p : Int) - (h : Int) < (n : Int) := by omega
        have K1 : Hid (∀ k : BW wr, Calls Try.prog 48 #[aggI y, aggI x, .pointer (some ⟨(default : Ctx).mc, 0, none⟩)] k.val fun e w'' => e = .returned (.int .i64 (gapC y.1 x.1)) ∧ ∃ k : BW wr, w'' = k.val) := fun k =>
          Calls.bw (HH.out.cmp y x (by simp [hyY]) (by simp [hxX]) k.val (I.but.step k.below))
        have HX := Lib.hid hx
        have HY := Lib.hid hy
        clear p0 r0 hx hy hxX hyY I
        refine wp_region_bw (by as_aux_lemma => kernel_rfl) (by as_aux_lemma => kernel_rfl) ?_
        repeat (go_big_quiet_step (with_reducible exact K1.out _))
        refine wpQuiet_nil ?_
        rintro _ ⟨kw, rfl⟩
        have J2 := Lib.hid (J.out.step kw.below)
        clear P0 R0 K1 i0 i1 i2 i3
        generalize kw.val = w2 at *
        by_cases hc : gapC y.1 x.1 < 0
        · have HHi2 : Hid (HiI (A ++ X ++ Y ++ D) r0 (p + 1) h) := .inr ⟨x, y, HX.out, HY.out, hc⟩
          have d4 : (!decide (gapC y.1 x.1 < 0)) = false := by rw [decide_eq_true hc]; rfl
          go_wp2_with fail
          all_goals first | (rename_i e; rw [d4] at e; contradiction) | skip
          go_roundw
          case rel => exact ⟨i, h, rfl, rfl, hmi, h1, by omega, HLo.out, HHi2.out, J2.out⟩
          case measure => simp [intOf]; omega
        · have HLo2 : Hid (LoI (A ++ X ++ Y ++ D) s0 (p + 1) (h + 1)) := .inr ⟨x, y, HX.out, by rw [Nat.add_sub_add_right]; exact HY.out, hc⟩
          have d4 : (!decide (gapC y.1 x.1 < 0)) = true := by rw [decide_eq_false hc]; rfl
          go_wp2_with fail
          all_goals first | (rename_i e; rw [d4] at e; contradiction) | skip
          go_roundw
          case rel => exact ⟨h + 1, j, by go_num, rfl, by omega, by omega, hjb, HLo2.out, HHi.out, J2.out⟩
          case measure => simp [intOf]; omega
      · obtain rfl : i = j := by omega
        obtain ⟨X1, X2, Y1, Y2, hXX, hYY, l1, l2, l3, l4, h12, h21⟩ := sym_parts (D := D) HO.out HA.out HM.out HB.out HH.out.hX HH.out.hY HH.out.hT hmi hjb HMid.out HC.out (by rw [HP.out]; exact HLo.out) (by rw [HP.out]; exact HHi.out)
        have HS : Hid (∀ S1 S2, Sorted (fun p q : Int => gapC p q) (X1 ++ Y1) S1 → Sorted (fun p q : Int => gapC p q) (X2 ++ Y2) S2 → Sorted (fun p q : Int => gapC p q) (X ++ Y) (S1 ++ S2)) := fun S1 S2 q1 q2 => by
          have hp := HH.out.hX
          have hq := HH.out.hY
          rw [hXX] at hp ⊢
          rw [hYY] at hq ⊢
          exact split_sorted hp hq h12 h21 q1 q2
        have HH2 : Hid (HalvesI A (X1 ++ X2) (Y1 ++ Y2) D g n w) := by have := HH.out; rw [hXX, hYY] at this; exact this
        have HJ : Hid (IsI g w (A ++ X1 ++ X2 ++ Y1 ++ Y2 ++ D) wr) := by have := J.out; rw [hXX, hYY] at this; rw [Hid]; simpa using this
        have HL1 := Lib.hid l1
        have HL2 := Lib.hid l2
        have HL3 := Lib.hid l3
        have HL4 := Lib.hid l4
        have hsum : mid - a < X.length + Y.length := by have := HM.out; have := HB.out; omega
        have hsum2 : b - mid < X.length + Y.length := by have := HM.out; have := HB.out; omega
        clear hXX hYY l1 l2 l3 l4 h12 h21 I J HLo HHi
        go_upto_region 39 with fail
        obtain ⟨en, hen⟩ : ∃ en : Nat, (p : Int) + 1 - (i : Int) = (en : Int) := ⟨p + 1 - i, by omega⟩
        have HEn : Hid (en + i = mid + m) := by unfold Hid; have := HP.out; omega
        have hen1 : en ≤ b := by omega
        rw [hen]
        clear hen
        go_cut [185] (fun s wx => s = .bool (decide (i < m ∧ m < en)) ∧ wr = wx)
        case first => as_aux_lemma =>
          by_cases e1 : i < m <;> by_cases e2 : m < en
          all_goals
            go_wp2_with fail
            go_meet
            exact ⟨congrArg Value.bool (by simp [e1, e2]), rfl⟩
        case rest =>
          obtain ⟨rfl, rfl⟩ := hcut
          go_upto_if 185 with fail
          go_cut [] (fun wx => IsI g w (A ++ X1 ++ Y1 ++ X2 ++ Y2 ++ D) wx)
          case first => as_aux_lemma =>
            by_cases e : i < m ∧ m < en
            · have d : decide (i < m ∧ m < en) = true := decide_eq_true e
              rw [d]
              clear d
              go_wp2_with fail
              refine (rotateI_any (A ++ X1) X2 Y1 (Y2 ++ D) g n c i m en _ _ _ _ _ (by have := HJ.out.row; simpa using this) (by rw [HH2.out.ln]; simp) (by have := HA.out; have := HL1.out; simp; omega) (by have := HA.out; have := HL1.out; have := HL2.out; simp; omega) (by have := HA.out; have := HL1.out; have := HL2.out; have := HL3.out; have := HEn.out; simp; omega) (by have := HL2.out; omega) (by have := HL3.out; have := HEn.out; omega) rfl rfl rfl HH2.out.sz).mono ?_
              rintro e w1 ⟨rfl, h1⟩
              have H1 := Lib.hid (HJ.out.then h1)
              clear h1
              go_wp2_with fail
              go_meet
              have := H1.out
              simpa using this
            · have d : decide (i < m ∧ m < en) = false := decide_eq_false e
              rw [d]
              clear d
              go_wp2_with fail
              go_meet
              have h1 := HJ.out
              have q : X2 = [] ∨ Y1 = [] := by
                by_cases e1 : i < m
                · exact .inr (List.eq_nil_of_length_eq_zero (by have := HL3.out; have := HEn.out; omega))
                · exact .inl (List.eq_nil_of_length_eq_zero (by have := HL2.out; omega))
              rcases q with q | q
              · rw [q] at h1 ⊢; simpa using h1
              · rw [q] at h1 ⊢; simpa using h1
          case rest =>
            have HJ2 := Lib.hid hcut
            clear hcut
            go_upto_region 41 with fail
            go_cut [199] (fun s wx => s = .bool (decide (a < i ∧ i < mid)) ∧ wc = wx)
            case first => as_aux_lemma =>
              by_cases e1 : a < i <;> by_cases e2 : i < mid
              all_goals
                go_wp2_with fail
                go_meet
                exact ⟨congrArg Value.bool (by simp [e1, e2]), rfl⟩
            case rest =>
              obtain ⟨rfl, rfl⟩ := hcut
              go_upto_if 199 with fail
              go_cut [] (fun wx => ∃ S1, Sorted (fun p q : Int => gapC p q) (X1 ++ Y1) S1 ∧ IsI g w (A ++ S1 ++ (X2 ++ Y2 ++ D)) wx)
              case first => as_aux_lemma =>
                by_cases e : a < i ∧ i < mid
                · have d : decide (a < i ∧ i < mid) = true := decide_eq_true e
                  rw [d]
                  clear d
                  go_wp2_with fail
                  refine (HI.out A X1 Y1 (X2 ++ Y2 ++ D) g n c a i mid _ _ _ _ (halfIL HH2.out HJ2.out) HA.out (by have := HL1.out; omega) (by have := HL3.out; omega) (by have := HL1.out; omega) (by have := HL3.out; omega) (by have := HL1.out; have := HL3.out; omega) rfl rfl rfl).mono ?_
                  rintro e w1 ⟨rfl, S1, h1, h2⟩
                  have H1 := Lib.hid h1
                  have H2 := Lib.hid (HJ2.out.then h2)
                  clear h1 h2
                  go_wp2_with fail
                  go_meet
                  exact ⟨S1, H1.out, H2.out⟩
                · have d : decide (a < i ∧ i < mid) = false := decide_eq_false e
                  rw [d]
                  clear d
                  go_wp2_with fail
                  go_meet
                  have hh := halfIL HH2.out HJ2.out
                  refine ⟨X1 ++ Y1, sorted_self ?_, by have := HJ2.out; simpa using this⟩
                  have q : X1 = [] ∨ Y1 = [] := by
                    by_cases e1 : a < i
                    · exact .inr (List.eq_nil_of_length_eq_zero (by have := HL3.out; omega))
                    · exact .inl (List.eq_nil_of_length_eq_zero (by have := HL1.out; omega))
                  rcases q with q | q
                  · rw [q]; simpa using hh.hY
                  · rw [q]; simpa using hh.hX
              case rest =>
                obtain ⟨S1, hS1, I⟩ := hcut
                have HS1 := Lib.hid hS1
                have HJ3 := Lib.hid I
                have HLS : Hid (S1.length = X1.length + Y1.length) := by rw [Hid, hS1.1.length_eq]; simp
                clear hS1 I
                go_upto_region 43 with fail
                go_cut [213] (fun s wx => s = .bool (decide (mid < en ∧ en < b)) ∧ wc = wx)
                case first => as_aux_lemma =>
                  by_cases e1 : mid < en <;> by_cases e2 : en < b
                  all_goals
                    go_wp2_with fail
                    go_meet
                    exact ⟨congrArg Value.bool (by simp [e1, e2]), rfl⟩
                case rest =>
                  obtain ⟨rfl, rfl⟩ := hcut
                  by_cases e : mid < en ∧ en < b
                  · as_aux_lemma =>
                    have d : decide (mid < en ∧ en < b) = true := decide_eq_true e
                    rw [d]
                    clear d
                    go_wp2_with fail
                    refine (HI.out (A ++ S1) X2 Y2 D g n c mid en b _ _ _ _ (halfIR HH2.out HLS.out HJ3.out) (by have := HA.out; have := HLS.out; have := HL1.out; have := HL3.out; simp; omega) (by have := HL2.out; have := HEn.out; omega) (by have := HL4.out; have := HEn.out; omega) (by have := HL2.out; have := HEn.out; omega) (by have := HL4.out; have := HEn.out; omega) (by have := HL2.out; have := HL4.out; have := HEn.out; omega) rfl rfl rfl).mono ?_
                    rintro e w1 ⟨rfl, S2, h1, h2⟩
                    have H1 := Lib.hid h1
                    have H2 := Lib.hid (HJ3.out.then h2)
                    clear h1 h2
                    go_wp2_with fail
                    go_end0
                    exact ⟨rfl, S1 ++ S2, HS.out S1 S2 HS1.out H1.out, by have := H2.out; simpa using this⟩
                  · as_aux_lemma =>
                    have d : decide (mid < en ∧ en < b) = false := decide_eq_false e
                    rw [d]
                    clear d
                    go_wp2_with fail
                    go_end0
                    have hh := halfIR HH2.out HLS.out HJ3.out
                    refine ⟨rfl, S1 ++ (X2 ++ Y2), HS.out S1 _ HS1.out (sorted_self ?_), by have := HJ3.out; simpa using this⟩
                    have q : X2 = [] ∨ Y2 = [] := by
                      by_cases e1 : mid < en
                      · exact .inr (List.eq_nil_of_length_eq_zero (by have := HL4.out; have := HEn.out; omega))
                      · exact .inl (List.eq_nil_of_length_eq_zero (by have := HL2.out; have := HEn.out; omega))
                    rcases q with q | q
                    · rw [q]; simpa using hh.hY
                    · rw [q]; simpa using hh.hX

/-- the library's symMerge: two sorted runs become one -/
theorem symI_any (H : Ordered (fun p q : Int => gapC p q)) (N : Nat) : SymOkI N := by
  induction N with
  | zero => exact fun A X Y D g n c a m b aI mI bI w h ha hm hb h1 h2 h3 => absurd h3 (by omega)
  | succ N ih =>
    intro A X Y D g n c a m b aI mI bI w h ha hm hb h1 h2 h3 haI hmI hbI
    by_cases e1 : X.length = 1
    · obtain ⟨x, rfl⟩ := List.length_eq_one_iff.1 e1
      exact sym1I H A x Y D g n c a m b aI mI bI w h ha (by simpa using hm) hb haI hmI hbI
    · by_cases e2 : Y.length = 1
      · obtain ⟨y, rfl⟩ := List.length_eq_one_iff.1 e2
        exact sym2I H A X y D g n c a m b aI mI bI w h ha hm (by simpa using hb) (by omega) haI hmI hbI
      · exact sym3I H A X Y D g n c a m b aI mI bI w h ha hm hb (by omega) (by omega) (fun A' X' Y' D' g' n' c' a' m' b' aI' mI' bI' w' q1 q2 q3 q4 q5 q6 q7 q8 q9 q10 => ih A' X' Y' D' g' n' c' a' m' b' aI' mI' bI' w' q1 q2 q3 q4 q5 q6 (by omega) q8 q9 q10) haI hmI hbI

end Go.Proofs.Ytefolbfopjfbcaa
