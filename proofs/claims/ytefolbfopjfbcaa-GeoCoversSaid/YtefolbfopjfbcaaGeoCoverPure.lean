/- The plain law of covers: quadrants are runs of cells; filling a box by quadrants. -/
import Derived.Test.YtefolbfopjfbcaaGeoMath
namespace Go.Proofs.Ytefolbfopjfbcaa
open Go.RowKit

theorem digit_high {k q d t : Nat} (hd : d < 2 ^ k) : (2 ^ k * q + d) / 2 ^ (k + t) = 2 ^ k * q / 2 ^ (k + t) := by
  have hp : 0 < 2 ^ k := Nat.two_pow_pos k
  rw [Nat.pow_add, ← Nat.div_div_eq_div_mul, ← Nat.div_div_eq_div_mul, Nat.mul_add_div hp, Nat.div_eq_of_lt hd, Nat.mul_div_cancel_left q hp, Nat.add_zero]
theorem digit_low {k q d j : Nat} (hj : j < k) : (2 ^ k * q + d) / 2 ^ j % 2 = d / 2 ^ j % 2 := by
  have hp : 0 < 2 ^ j := Nat.two_pow_pos j
  have e : 2 ^ k * q = 2 ^ j * (2 * (2 ^ (k - j - 1) * q)) := by
    rw [show k = j + (k - j - 1) + 1 by omega, Nat.pow_succ, Nat.pow_add, show j + (k - j - 1) + 1 - j - 1 = k - j - 1 by omega]
    ac_rfl
  rw [e, Nat.mul_add_div hp]
  omega
theorem cellN_low {k q r : Nat} (dx dy : Nat) : ∀ j, j ≤ k → cellN j (2 ^ k * q + dx) (2 ^ k * r + dy) = cellN j dx dy := by
  intro j
  induction j with
  | zero => intro _; rfl
  | succ j ih => intro h; simp only [cellN]; rw [ih (by omega), digit_low (by omega), digit_low (by omega)]
theorem cellN_zero (j : Nat) : cellN j 0 0 = 0 := by
  induction j with
  | zero => rfl
  | succ j ih => simp [cellN, ih]
/-- a quadrant with an aligned corner is a run of cells -/
theorem cellN_quad {k q r dx dy : Nat} (hx : dx < 2 ^ k) (hy : dy < 2 ^ k) : ∀ t, cellN (k + t) (2 ^ k * q + dx) (2 ^ k * r + dy) = cellN (k + t) (2 ^ k * q) (2 ^ k * r) + cellN k dx dy := by
  intro t
  induction t with
  | zero =>
    have h0 := cellN_low (k := k) (q := q) (r := r) 0 0 k (Nat.le_refl _)
    rw [Nat.add_zero, Nat.add_zero, cellN_zero] at h0
    rw [Nat.add_zero, cellN_low dx dy k (Nat.le_refl _), h0, Nat.zero_add]
  | succ t ih =>
    show cellN (k + t + 1) _ _ = cellN (k + t + 1) _ _ + _
    simp only [cellN]
    rw [ih, digit_high hx, digit_high hy]
    omega

abbrev Rg := Int × Int
/-- ranges that ascend with gaps between them, from A on and below B -/
structure RgOk (A B : Int) (l : List Rg) : Prop where
  ne : ∀ r ∈ l, r.1 ≤ r.2
  gap : l.Pairwise fun r s => r.2 + 2 ≤ s.1
  lo : ∀ r ∈ l, A ≤ r.1
  hi : ∀ r ∈ l, r.2 < B
def inR (z : Int) (l : List Rg) : Prop := ∃ r ∈ l, r.1 ≤ z ∧ z ≤ r.2
/-- a range is appended, or joined with the last one -/
def pushR (l : List Rg) (a b : Int) : List Rg :=
  match l.getLast? with
  | some r => if r.2 + 1 = a then l.dropLast ++ [(r.1, b)] else l ++ [(a, b)]
  | none => [(a, b)]
theorem pushR_nil (a b : Int) : pushR [] a b = [(a, b)] := rfl
theorem pushR_join (d : List Rg) (r : Rg) (a b : Int) (h : r.2 + 1 = a) : pushR (d ++ [r]) a b = d ++ [(r.1, b)] := by
  unfold pushR
  rw [show (d ++ [r]).getLast? = some r by simp]
  simp only
  rw [if_pos h, List.dropLast_concat]
theorem pushR_add (d : List Rg) (r : Rg) (a b : Int) (h : ¬ r.2 + 1 = a) : pushR (d ++ [r]) a b = d ++ [r] ++ [(a, b)] := by
  unfold pushR
  rw [show (d ++ [r]).getLast? = some r by simp]
  simp only
  rw [if_neg h]
theorem pushR_ok {A B a b : Int} {l : List Rg} (h : RgOk A a l) (hab : a ≤ b) (hA : A ≤ a) (hB : b < B) : RgOk A B (pushR l a b) := by
  rcases List.eq_nil_or_concat l with rfl | ⟨d, r, rfl⟩
  · rw [pushR_nil]
    exact ⟨by simpa using hab, by simp, by simpa using hA, by simpa using hB⟩
  · rw [List.concat_eq_append] at h ⊢
    have hr := h.ne r (by simp)
    have hh := h.hi r (by simp)
    have hl := h.lo r (by simp)
    have hp := List.pairwise_append.1 h.gap
    by_cases e : r.2 + 1 = a
    · rw [pushR_join d r a b e]
      refine ⟨fun s hs => ?_, ?_, fun s hs => ?_, fun s hs => ?_⟩
      · rcases List.mem_append.1 hs with hs | hs
        · exact h.ne s (by simp [hs])
        · simp at hs; subst hs; show r.1 ≤ b; omega
      · refine List.pairwise_append.2 ⟨hp.1, by simp, fun s hs t ht => ?_⟩
        simp at ht; subst ht
        exact hp.2.2 s hs r (by simp)
      · rcases List.mem_append.1 hs with hs | hs
        · exact h.lo s (by simp [hs])
        · simp at hs; subst hs; exact hl
      · rcases List.mem_append.1 hs with hs | hs
        · have := h.hi s (by simp [hs]); omega
        · simp at hs; subst hs; exact hB
    · rw [pushR_add d r a b e]
      refine ⟨fun s hs => ?_, ?_, fun s hs => ?_, fun s hs => ?_⟩
      · rcases List.mem_append.1 hs with hs | hs
        · exact h.ne s hs
        · simp at hs; subst hs; exact hab
      · refine List.pairwise_append.2 ⟨h.gap, by simp, fun s hs t ht => ?_⟩
        simp at ht; subst ht
        rcases List.mem_append.1 hs with hs | hs
        · have h1 := hp.2.2 s hs r (by simp); show s.2 + 2 ≤ a; omega
        · simp at hs; subst hs; show s.2 + 2 ≤ a; omega
      · rcases List.mem_append.1 hs with hs | hs
        · exact h.lo s hs
        · simp at hs; subst hs; exact hA
      · rcases List.mem_append.1 hs with hs | hs
        · have := h.hi s hs; omega
        · simp at hs; subst hs; exact hB
theorem pushR_in {z a b : Int} {l : List Rg} (h : ∀ r ∈ l, r.1 ≤ r.2 ∧ r.2 < a) (hab : a ≤ b) : inR z l ∨ (a ≤ z ∧ z ≤ b) → inR z (pushR l a b) := by
  rcases List.eq_nil_or_concat l with rfl | ⟨d, r, rfl⟩
  · rw [pushR_nil]
    rintro (⟨s, hs, _⟩ | hz)
    · simp at hs
    · exact ⟨(a, b), by simp, hz⟩
  · rw [List.concat_eq_append] at h ⊢
    have hr := h r (by simp)
    by_cases e : r.2 + 1 = a
    · rw [pushR_join d r a b e]
      rintro (⟨s, hs, hz⟩ | hz)
      · rcases List.mem_append.1 hs with hs | hs
        · exact ⟨s, by simp [hs], hz⟩
        · simp at hs; subst hs; exact ⟨(s.1, b), by simp, hz.1, by show z ≤ b; omega⟩
      · exact ⟨(r.1, b), by simp, by show r.1 ≤ z; omega, hz.2⟩
    · rw [pushR_add d r a b e]
      rintro (⟨s, hs, hz⟩ | hz)
      · exact ⟨s, List.mem_append_left _ hs, hz⟩
      · exact ⟨(a, b), by simp, hz⟩

/-- what fill computes: bx = (lox, loy, hix, hiy) -/
def fillR : Nat → List Rg → Nat → Nat → Int × Int × Int × Int → List Rg
  | k, l, cx, cy, bx =>
    if (cx : Int) > bx.2.2.1 ∨ ((cx + 2 ^ k - 1 : Nat) : Int) < bx.1 ∨ (cy : Int) > bx.2.2.2 ∨ ((cy + 2 ^ k - 1 : Nat) : Int) < bx.2.1 then l
    else if bx.1 ≤ (cx : Int) ∧ ((cx + 2 ^ k - 1 : Nat) : Int) ≤ bx.2.2.1 ∧ bx.2.1 ≤ (cy : Int) ∧ ((cy + 2 ^ k - 1 : Nat) : Int) ≤ bx.2.2.2 then pushR l (cellN 16 cx cy) ((cellN 16 cx cy + 4 ^ k - 1 : Nat) : Int)
    else match k with
      | 0 => l
      | k + 1 => fillR k (fillR k (fillR k (fillR k l cx cy bx) (cx + 2 ^ k) cy bx) cx (cy + 2 ^ k) bx) (cx + 2 ^ k) (cy + 2 ^ k) bx

theorem cellN_part (k a b : Nat) (ha : a < 2) (hb : b < 2) : cellN (k + 1) (2 ^ k * a) (2 ^ k * b) = 4 ^ k * (a + 2 * b) := by
  simp only [cellN]
  have h0 := cellN_low (k := k) (q := a) (r := b) 0 0 k (Nat.le_refl _)
  rw [Nat.add_zero, Nat.add_zero, cellN_zero] at h0
  have hp : 0 < 2 ^ k := Nat.two_pow_pos k
  rw [h0, Nat.mul_div_cancel_left a hp, Nat.mul_div_cancel_left b hp, Nat.mod_eq_of_lt ha, Nat.mod_eq_of_lt hb, Nat.zero_add]
/-- the corners of the four parts of a quadrant -/
theorem cell_part {k q r a b : Nat} (hk : k + 1 ≤ 16) (ha : a < 2) (hb : b < 2) : cellN 16 (2 ^ (k + 1) * q + 2 ^ k * a) (2 ^ (k + 1) * r + 2 ^ k * b) = cellN 16 (2 ^ (k + 1) * q) (2 ^ (k + 1) * r) + 4 ^ k * (a + 2 * b) := by
  have hp : 0 < 2 ^ k := Nat.two_pow_pos k
  have h1 : ∀ c, c < 2 → 2 ^ k * c < 2 ^ (k + 1) := fun c hc => by rw [Nat.pow_succ]; exact Nat.mul_lt_mul_of_pos_left hc hp
  have := cellN_quad (k := k + 1) (q := q) (r := r) (h1 a ha) (h1 b hb) (16 - (k + 1))
  rw [show k + 1 + (16 - (k + 1)) = 16 by omega] at this
  rw [this, cellN_part k a b ha hb]
theorem RgOk.more {A B B' : Int} {l : List Rg} (h : RgOk A B l) (hB : B ≤ B') : RgOk A B' l := ⟨h.ne, h.gap, h.lo, fun r hr => by have := h.hi r hr; omega⟩
theorem part_corner {k q a : Nat} : 2 ^ (k + 1) * q + 2 ^ k * a = 2 ^ k * (2 * q + a) := by rw [Nat.pow_succ, Nat.mul_add, Nat.mul_assoc]
/-- fill keeps the form -/
theorem fillR_ok {A : Int} {bx : Int × Int × Int × Int} : ∀ (k q r : Nat) (l : List Rg), k ≤ 16 → RgOk A (cellN 16 (2 ^ k * q) (2 ^ k * r)) l → A ≤ cellN 16 (2 ^ k * q) (2 ^ k * r) →
    RgOk A ((cellN 16 (2 ^ k * q) (2 ^ k * r) + 4 ^ k : Nat) : Int) (fillR k l (2 ^ k * q) (2 ^ k * r) bx) := by
  intro k
  induction k with
  | zero =>
    intro q r l _ h hA
    unfold fillR
    split
    · exact h.more (by omega)
    · split
      · exact pushR_ok h (by simp) hA (by simp; omega)
      · exact h.more (by omega)
  | succ k ih =>
    intro q r l hk h hA
    have h4 : 0 < 4 ^ k := Nat.pow_pos (by omega)
    have e4 : 4 ^ (k + 1) = 4 * 4 ^ k := by rw [Nat.pow_succ, Nat.mul_comm]
    unfold fillR
    split
    · exact h.more (by omega)
    · split
      · exact pushR_ok h (by omega) hA (by omega)
      · have c0 := cell_part (k := k) (q := q) (r := r) (a := 0) (b := 0) hk (by omega) (by omega)
        have c1 := cell_part (k := k) (q := q) (r := r) (a := 1) (b := 0) hk (by omega) (by omega)
        have c2 := cell_part (k := k) (q := q) (r := r) (a := 0) (b := 1) hk (by omega) (by omega)
        have c3 := cell_part (k := k) (q := q) (r := r) (a := 1) (b := 1) hk (by omega) (by omega)
        simp only [part_corner] at c0 c1 c2 c3
        have i0 := ih (2 * q + 0) (2 * r + 0) l (by omega) (by rw [c0]; simpa using h) (by rw [c0]; simpa using hA)
        have i1 := ih (2 * q + 1) (2 * r + 0) _ (by omega) (i0.more (by rw [c0, c1]; omega)) (by rw [c1]; omega)
        have i2 := ih (2 * q + 0) (2 * r + 1) _ (by omega) (i1.more (by rw [c1, c2]; omega)) (by rw [c2]; omega)
        have i3 := ih (2 * q + 1) (2 * r + 1) _ (by omega) (i2.more (by rw [c2, c3]; omega)) (by rw [c3]; omega)
        rw [← part_corner (q := q) (a := 0), ← part_corner (q := q) (a := 1), ← part_corner (q := r) (a := 0), ← part_corner (q := r) (a := 1)] at i3
        simp only [Nat.mul_zero, Nat.add_zero, Nat.mul_one] at i3
        refine i3.more ?_
        rw [← part_corner, ← part_corner] at c3
        simp only [Nat.mul_one] at c3
        rw [c3]
        omega

/-- the point lies in the box -/
def InB (bx : Int × Int × Int × Int) (x y : Int) : Prop := bx.1 ≤ x ∧ x ≤ bx.2.2.1 ∧ bx.2.1 ≤ y ∧ y ≤ bx.2.2.2
theorem split_digit {k d : Nat} (h : d < 2 ^ (k + 1)) : ∃ a d', a < 2 ∧ d' < 2 ^ k ∧ d = 2 ^ k * a + d' := by
  have hp : 0 < 2 ^ k := Nat.two_pow_pos k
  refine ⟨d / 2 ^ k, d % 2 ^ k, ?_, Nat.mod_lt _ hp, (Nat.div_add_mod d (2 ^ k)).symm⟩
  rw [Nat.div_lt_iff_lt_mul hp, Nat.mul_comm, ← Nat.pow_succ]
  exact h
/-- fill covers the box's points in the quadrant, and what was covered -/
theorem fillR_in {A z : Int} {bx : Int × Int × Int × Int} : ∀ (k q r : Nat) (l : List Rg), k ≤ 16 → RgOk A (cellN 16 (2 ^ k * q) (2 ^ k * r)) l → A ≤ cellN 16 (2 ^ k * q) (2 ^ k * r) →
    (inR z l → inR z (fillR k l (2 ^ k * q) (2 ^ k * r) bx)) ∧
    ∀ dx dy : Nat, dx < 2 ^ k → dy < 2 ^ k → InB bx ((2 ^ k * q + dx : Nat) : Int) ((2 ^ k * r + dy : Nat) : Int) → z = cellN 16 (2 ^ k * q + dx) (2 ^ k * r + dy) → inR z (fillR k l (2 ^ k * q) (2 ^ k * r) bx) := by
  intro k
  induction k with
  | zero =>
    intro q r l _ h hA
    unfold fillR
    split
    · rename_i hd
      refine ⟨id, fun dx dy hx hy hb hz => ?_⟩
      unfold InB at hb
      simp at hx hy hd hb
      subst hx hy
      simp at hb
      omega
    · split
      · have hp := pushR_in (z := z) (l := l) (a := (cellN 16 (2 ^ 0 * q) (2 ^ 0 * r) : Nat)) (b := ((cellN 16 (2 ^ 0 * q) (2 ^ 0 * r) + 4 ^ 0 - 1 : Nat) : Int)) (fun s hs => ⟨h.ne s hs, h.hi s hs⟩) (by simp)
        refine ⟨fun hz => hp (.inl hz), fun dx dy hx hy hb hz => hp (.inr ?_)⟩
        simp at hx hy
        subst hx hy
        simp at hz ⊢
        omega
      · rename_i hd hi
        refine ⟨id, fun dx dy hx hy hb hz => ?_⟩
        unfold InB at hb
        simp at hx hy hd hi hb
        subst hx hy
        simp at hb
        omega
  | succ k ih =>
    intro q r l hk h hA
    have h4 : 0 < 4 ^ k := Nat.pow_pos (by omega)
    have e4 : 4 ^ (k + 1) = 4 * 4 ^ k := by rw [Nat.pow_succ, Nat.mul_comm]
    have h2 : 0 < 2 ^ (k + 1) := Nat.two_pow_pos _
    unfold fillR
    split
    · rename_i hd
      refine ⟨id, fun dx dy hx hy hb hz => ?_⟩
      unfold InB at hb
      omega
    · split
      · have hp := pushR_in (z := z) (l := l) (a := (cellN 16 (2 ^ (k + 1) * q) (2 ^ (k + 1) * r) : Nat)) (b := ((cellN 16 (2 ^ (k + 1) * q) (2 ^ (k + 1) * r) + 4 ^ (k + 1) - 1 : Nat) : Int)) (fun s hs => ⟨h.ne s hs, h.hi s hs⟩) (by omega)
        refine ⟨fun hz => hp (.inl hz), fun dx dy hx hy hb hz => hp (.inr ?_)⟩
        have hq := cellN_quad (k := k + 1) (q := q) (r := r) hx hy (16 - (k + 1))
        rw [show k + 1 + (16 - (k + 1)) = 16 by omega] at hq
        have hl := cellN_lt (k + 1) dx dy
        rw [hq] at hz
        omega
      · have c0 := cell_part (k := k) (q := q) (r := r) (a := 0) (b := 0) hk (by omega) (by omega)
        have c1 := cell_part (k := k) (q := q) (r := r) (a := 1) (b := 0) hk (by omega) (by omega)
        have c2 := cell_part (k := k) (q := q) (r := r) (a := 0) (b := 1) hk (by omega) (by omega)
        have c3 := cell_part (k := k) (q := q) (r := r) (a := 1) (b := 1) hk (by omega) (by omega)
        simp only [part_corner] at c0 c1 c2 c3
        have g0 : RgOk A (cellN 16 (2 ^ k * (2 * q + 0)) (2 ^ k * (2 * r + 0))) l := by rw [c0]; simpa using h
        have a0 : A ≤ cellN 16 (2 ^ k * (2 * q + 0)) (2 ^ k * (2 * r + 0)) := by rw [c0]; simpa using hA
        have i0 := fillR_ok (bx := bx) k (2 * q + 0) (2 * r + 0) l (by omega) g0 a0
        have j0 := ih (2 * q + 0) (2 * r + 0) l (by omega) g0 a0
        have g1 := i0.more (B' := (cellN 16 (2 ^ k * (2 * q + 1)) (2 ^ k * (2 * r + 0)) : Nat)) (by rw [c0, c1]; omega)
        have a1 : A ≤ cellN 16 (2 ^ k * (2 * q + 1)) (2 ^ k * (2 * r + 0)) := by rw [c1]; omega
        have i1 := fillR_ok (bx := bx) k (2 * q + 1) (2 * r + 0) _ (by omega) g1 a1
        have j1 := ih (2 * q + 1) (2 * r + 0) _ (by omega) g1 a1
        have g2 := i1.more (B' := (cellN 16 (2 ^ k * (2 * q + 0)) (2 ^ k * (2 * r + 1)) : Nat)) (by rw [c1, c2]; omega)
        have a2 : A ≤ cellN 16 (2 ^ k * (2 * q + 0)) (2 ^ k * (2 * r + 1)) := by rw [c2]; omega
        have i2 := fillR_ok (bx := bx) k (2 * q + 0) (2 * r + 1) _ (by omega) g2 a2
        have j2 := ih (2 * q + 0) (2 * r + 1) _ (by omega) g2 a2
        have g3 := i2.more (B' := (cellN 16 (2 ^ k * (2 * q + 1)) (2 ^ k * (2 * r + 1)) : Nat)) (by rw [c2, c3]; omega)
        have a3 : A ≤ cellN 16 (2 ^ k * (2 * q + 1)) (2 ^ k * (2 * r + 1)) := by rw [c3]; omega
        have j3 := ih (2 * q + 1) (2 * r + 1) _ (by omega) g3 a3
        have e0 : ∀ q, 2 ^ k * (2 * q + 0) = 2 ^ (k + 1) * q := fun q => by rw [← part_corner, Nat.mul_zero, Nat.add_zero]
        have e1 : ∀ q, 2 ^ k * (2 * q + 1) = 2 ^ (k + 1) * q + 2 ^ k := fun q => by rw [← part_corner, Nat.mul_one]
        simp only [e0, e1] at j0 j1 j2 j3
        refine ⟨fun hz => j3.1 (j2.1 (j1.1 (j0.1 hz))), fun dx dy hx hy hb hz => ?_⟩
        obtain ⟨a, dx', ha, hx', rfl⟩ := split_digit hx
        obtain ⟨b, dy', hb', hy', rfl⟩ := split_digit hy
        have ea : a = 0 ∨ a = 1 := by omega
        have eb : b = 0 ∨ b = 1 := by omega
        rcases ea with rfl | rfl <;> rcases eb with rfl | rfl
        · simp only [Nat.mul_zero, Nat.zero_add] at hb hz
          exact j3.1 (j2.1 (j1.1 (j0.2 dx' dy' hx' hy' hb hz)))
        · simp only [Nat.mul_zero, Nat.zero_add, Nat.mul_one, ← Nat.add_assoc] at hb hz
          exact j3.1 (j2.2 dx' dy' hx' hy' hb hz)
        · simp only [Nat.mul_zero, Nat.zero_add, Nat.mul_one, ← Nat.add_assoc] at hb hz
          exact j3.1 (j2.1 (j1.2 dx' dy' hx' hy' hb hz))
        · simp only [Nat.mul_one, ← Nat.add_assoc] at hb hz
          exact j3.2 dx' dy' hx' hy' hb hz

end Go.Proofs.Ytefolbfopjfbcaa
