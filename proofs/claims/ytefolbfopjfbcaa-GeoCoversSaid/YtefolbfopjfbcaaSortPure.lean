/- Stable sorting in plain words: elements bear their place; the sorted list is the one in which all pairs stand in order. -/
import Derived.Test.YtefolbfopjfbcaaSortOrd
import Derived.Test.YtefolbfopjfbcaaKit7
namespace Go.Proofs.Ytefolbfopjfbcaa

/-- a comparison that is a total order up to equality -/
structure Ordered {α : Type} (cm : α → α → Int) : Prop where
  anti : ∀ x y, cm y x = -cm x y
  tr : ∀ x y z, TR (cm x y) (cm y z) (cm x z)

section
variable {α : Type} (cm : α → α → Int)

/-- the order of tagged elements -/
def RT (x y : α × Nat) : Prop := cm x.1 y.1 < 0 ∨ cm x.1 y.1 = 0 ∧ x.2 < y.2
variable {cm}
theorem RT.trans (H : Ordered cm) {x y z : α × Nat} (h1 : RT cm x y) (h2 : RT cm y z) : RT cm x z := by
  unfold RT at *
  have := H.tr x.1 y.1 z.1 (by omega) (by omega)
  omega
theorem RT.asymm (H : Ordered cm) {x y : α × Nat} (h1 : RT cm x y) (h2 : RT cm y x) : False := by
  unfold RT at *
  have := H.anti x.1 y.1
  omega
theorem RT.total (H : Ordered cm) (x y : α × Nat) (h : x.2 ≠ y.2) : RT cm x y ∨ RT cm y x := by
  unfold RT
  have := H.anti x.1 y.1
  omega
/-- two sorted lists with the same elements are the same -/
theorem sorted_unique (H : Ordered cm) : ∀ {l m : List (α × Nat)}, l.Pairwise (RT cm) → m.Pairwise (RT cm) → l.Perm m → l = m := by
  intro l
  induction l with
  | nil => intro m _ _ hp; exact hp.nil_eq
  | cons x r ih =>
    intro m hl hm hp
    cases m with
    | nil => exact absurd hp.symm.nil_eq (by simp)
    | cons y s =>
      have hxy : x = y := by
        have h1 : x ∈ y :: s := hp.subset (by simp)
        have h2 : y ∈ x :: r := hp.symm.subset (by simp)
        rcases List.mem_cons.1 h1 with h1 | h1
        · exact h1
        · rcases List.mem_cons.1 h2 with h2 | h2
          · exact h2.symm
          · exact (RT.asymm H (List.rel_of_pairwise_cons hl h2) (List.rel_of_pairwise_cons hm h1)).elim
      subst hxy
      rw [ih (List.Pairwise.of_cons hl) (List.Pairwise.of_cons hm) (List.Perm.cons_inv hp)]

/-- the tags of a list rise -/
def Tagged (l : List (α × Nat)) : Prop := l.Pairwise fun x y => x.2 < y.2
/-- S is l sorted -/
structure Sorted (cm : α → α → Int) (l S : List (α × Nat)) : Prop where
  perm : S.Perm l
  ord : S.Pairwise (RT cm)
theorem Sorted.nil : Sorted cm ([] : List (α × Nat)) [] := ⟨.nil, .nil⟩
theorem Sorted.one (x : α × Nat) : Sorted cm [x] [x] := ⟨.refl _, by simp⟩
/-- an element has come down to its place -/
theorem Sorted.insert (H : Ordered cm) {P S1 S2 : List (α × Nat)} {x : α × Nat} (h : Sorted cm P (S1 ++ S2)) (ht : ∀ y ∈ P, y.2 < x.2) (h2 : ∀ y ∈ S2, cm x.1 y.1 < 0) (h1 : ∀ y, S1.getLast? = some y → ¬ cm x.1 y.1 < 0) : Sorted cm (P ++ [x]) (S1 ++ x :: S2) := by
  refine ⟨?_, ?_⟩
  · have e1 : (S1 ++ x :: S2).Perm (x :: (S1 ++ S2)) := List.perm_middle
    have e2 : (x :: (S1 ++ S2)).Perm (x :: P) := h.perm.cons x
    have e3 : (x :: P).Perm (P ++ [x]) := (List.perm_append_singleton x P).symm
    exact e1.trans (e2.trans e3)
  · have ho := h.ord
    rw [List.pairwise_append] at ho ⊢
    refine ⟨ho.1, ?_, ?_⟩
    · rw [List.pairwise_cons]
      exact ⟨fun y hy => .inl (h2 y hy), ho.2.1⟩
    · intro y hy z hz
      rcases List.mem_cons.1 hz with rfl | hz
      · have hyP : y ∈ P := h.perm.subset (by simp [hy])
        rcases List.eq_nil_or_concat S1 with rfl | ⟨S, q, rfl⟩
        · simp at hy
        · have hq : ¬ cm z.1 q.1 < 0 := h1 q (by simp)
          have hqP : q ∈ P := h.perm.subset (by simp)
          have hqz : RT cm q z := by
            unfold RT
            have := H.anti z.1 q.1
            have := ht q hqP
            omega
          simp only [List.concat_eq_append, List.mem_append, List.mem_singleton] at hy
          rcases hy with hy | rfl
          · have : RT cm y q := by
              have h3 := ho.1
              simp only [List.concat_eq_append] at h3
              rw [List.pairwise_append] at h3
              exact h3.2.2 y hy q (by simp)
            exact RT.trans H this hqz
          · exact hqz
      · exact ho.2.2 y hy z hz
/-- positions as tags -/
def tagFrom : Nat → List α → List (α × Nat)
  | _, [] => []
  | n, x :: r => (x, n) :: tagFrom (n + 1) r
theorem tagFrom_map (l : List α) : ∀ n, (tagFrom n l).map Prod.fst = l := by
  induction l with
  | nil => intro n; rfl
  | cons x r ih => intro n; simp [tagFrom, ih]
theorem tagFrom_ge (l : List α) : ∀ n, ∀ y ∈ tagFrom n l, n ≤ y.2 := by
  induction l with
  | nil => intro n y hy; simp [tagFrom] at hy
  | cons x r ih =>
    intro n y hy
    simp only [tagFrom, List.mem_cons] at hy
    rcases hy with rfl | hy
    · exact Nat.le_refl _
    · have := ih (n + 1) y hy; omega
theorem tagFrom_tagged (l : List α) : ∀ n, Tagged (tagFrom n l) := by
  induction l with
  | nil => intro n; simp [tagFrom, Tagged]
  | cons x r ih =>
    intro n
    simp only [tagFrom, Tagged, List.pairwise_cons]
    exact ⟨fun y hy => by have := tagFrom_ge r (n + 1) y hy; show n < y.2; omega, ih (n + 1)⟩
theorem tagFrom_length (l : List α) : ∀ n, (tagFrom n l).length = l.length := by
  induction l with
  | nil => intro n; rfl
  | cons x r ih => intro n; simp [tagFrom, ih]
end

theorem flat_set {α : Type} {rec : α → List Value} {s : Nat} (hs : ∀ a, (rec a).length = s) : ∀ (l : List α) (j : Nat) (a : α), j < l.length → flat rec (l.set j a) = setList (flat rec l) (j * s) (rec a) := by
  intro l
  induction l with
  | nil => intro j a h; simp at h
  | cons x r ih =>
    intro j a h
    have e : ∀ (y : α) (t : List α), flat rec (y :: t) = rec y ++ flat rec t := fun _ _ => rfl
    have hl := flat_length hs (x :: r)
    have hlr := flat_length hs r
    simp only [List.length_cons] at hl h
    have hm : (j + 1) * s ≤ (r.length + 1) * s := Nat.mul_le_mul_right s (by omega)
    rw [Nat.add_mul] at hm
    rw [setList_eq _ _ _ (by rw [hs, hl]; omega), hs]
    cases j with
    | zero =>
      rw [List.set_cons_zero, e, e]
      simp [hs]
    | succ j =>
      have hm2 : (j + 1) * s ≤ r.length * s := Nat.mul_le_mul_right s (by omega)
      rw [Nat.add_mul] at hm2
      rw [List.set_cons_succ, e, e, ih j a (by omega), setList_eq _ _ _ (by rw [hs, hlr]; omega), hs, show (j + 1) * s = s + j * s by rw [Nat.add_mul]; omega]
      have e1 : (rec x ++ flat rec r).take (s + j * s) = rec x ++ (flat rec r).take (j * s) := by
        have := List.take_length_add_append (l₁ := rec x) (l₂ := flat rec r) (j * s)
        rwa [hs] at this
      have e2 : (rec x ++ flat rec r).drop (s + j * s + s) = (flat rec r).drop (j * s + s) := by
        have := List.drop_length_add_append (l₁ := rec x) (l₂ := flat rec r) (j * s + s)
        rw [hs] at this
        rw [show s + j * s + s = s + (j * s + s) by omega]
        exact this
      rw [e1, e2]
      simp only [List.append_assoc]

end Go.Proofs.Ytefolbfopjfbcaa
