/- Lists in blocks: plain. -/
import Derived.Test.YtefolbfopjfbcaaSortPure
namespace Go.Proofs.Ytefolbfopjfbcaa

section
variable {α : Type}
def blk (bs q : Nat) (L : List α) : List α := (L.drop (q * bs)).take bs
theorem blk_before {A T : List α} {bs q : Nat} (h : q * bs + bs ≤ A.length) : blk bs q (A ++ T) = blk bs q A := by
  unfold blk
  rw [List.drop_append_of_le_length (by omega), List.take_append_of_le_length (by rw [List.length_drop]; omega)]
theorem blk_behind {A T : List α} {bs q k : Nat} (hA : A.length = k * bs) (h : k ≤ q) : blk bs q (A ++ T) = blk bs (q - k) T := by
  unfold blk
  have e : q * bs = A.length + (q - k) * bs := by rw [hA, ← Nat.add_mul, Nat.add_sub_cancel' h]
  rw [e, List.drop_length_add_append]
theorem blk_zero {S T : List α} {bs : Nat} (h : S.length = bs ∨ (S.length ≤ bs ∧ T = [])) : blk bs 0 (S ++ T) = S := by
  unfold blk
  rcases h with h | ⟨h, rfl⟩
  · subst h; simp
  · simp [List.take_of_length_le h]
variable {cm : α → α → Int}
theorem runs_step {A0 A Seg S : List (α × Nat)} {bs k : Nat} (hA0 : A0.length = k * bs) (hA : A.length = k * bs) (h : ∀ q, q < k → Sorted cm (blk bs q A0) (blk bs q A)) (hl : Seg.length = bs) (hS : Sorted cm Seg S) :
    ∀ q, q < k + 1 → Sorted cm (blk bs q (A0 ++ Seg)) (blk bs q (A ++ S)) := fun q hq => by
  by_cases e : q = k
  · subst e
    have hl2 : S.length = bs := by rw [← hl]; exact hS.1.length_eq
    have e1 : blk bs 0 (Seg ++ []) = Seg := blk_zero (.inl hl)
    have e2 : blk bs 0 (S ++ []) = S := blk_zero (.inl hl2)
    rw [List.append_nil] at e1 e2
    rw [blk_behind hA0 (Nat.le_refl _), blk_behind hA (Nat.le_refl _), Nat.sub_self, e1, e2]
    exact hS
  · have hk : (q + 1) * bs ≤ k * bs := Nat.mul_le_mul_right _ (by omega)
    rw [Nat.succ_mul] at hk
    rw [blk_before (by omega), blk_before (by omega)]
    exact h q (by omega)
theorem runs_last {A0 A Seg S : List (α × Nat)} {bs k : Nat} (hA0 : A0.length = k * bs) (hA : A.length = k * bs) (h : ∀ q, q < k → Sorted cm (blk bs q A0) (blk bs q A)) (hl : Seg.length ≤ bs) (hS : Sorted cm Seg S) :
    ∀ q, Sorted cm (blk bs q (A0 ++ Seg)) (blk bs q (A ++ S)) := fun q => by
  have hl2 : S.length ≤ bs := by rw [hS.1.length_eq]; exact hl
  by_cases e : q < k
  · have hk : (q + 1) * bs ≤ k * bs := Nat.mul_le_mul_right _ (by omega)
    rw [Nat.succ_mul] at hk
    rw [blk_before (by omega), blk_before (by omega)]
    exact h q e
  · rw [blk_behind hA0 (by omega), blk_behind hA (by omega)]
    by_cases e0 : q = k
    · subst e0
      have e1 : blk bs 0 (Seg ++ []) = Seg := blk_zero (.inr ⟨hl, rfl⟩)
      have e2 : blk bs 0 (S ++ []) = S := blk_zero (.inr ⟨hl2, rfl⟩)
      rw [List.append_nil] at e1 e2
      rw [Nat.sub_self, e1, e2]
      exact hS
    · have hk : 1 * bs ≤ (q - k) * bs := Nat.mul_le_mul_right _ (by omega)
      unfold blk
      rw [List.drop_eq_nil_of_le (by omega), List.drop_eq_nil_of_le (by omega), List.take_nil]
      exact ⟨List.Perm.refl _, List.Pairwise.nil⟩
theorem runs_tail {X0 Y0 D0 X Y D : List (α × Nat)} {bs : Nat} (h1 : X0.length = bs) (h2 : Y0.length = bs ∨ (Y0.length ≤ bs ∧ D0 = [])) (h3 : X.length = bs) (h4 : Y.length = bs ∨ (Y.length ≤ bs ∧ D = [])) (h : ∀ q, Sorted cm (blk bs q (X0 ++ (Y0 ++ D0))) (blk bs q (X ++ (Y ++ D)))) :
    Sorted cm X0 X ∧ Sorted cm Y0 Y := by
  refine ⟨?_, ?_⟩
  · have := h 0
    rwa [blk_zero (.inl h1), blk_zero (.inl h3)] at this
  · have := h 1
    rwa [blk_behind (k := 1) (by omega) (Nat.le_refl _), blk_behind (k := 1) (by omega) (Nat.le_refl _), Nat.sub_self, blk_zero h2, blk_zero h4] at this
theorem runs_rest {Z0 D0 Z D : List (α × Nat)} {bs : Nat} (h1 : Z0.length = 2 * bs) (h3 : Z.length = 2 * bs) (h : ∀ q, Sorted cm (blk bs q (Z0 ++ D0)) (blk bs q (Z ++ D))) (q : Nat) : Sorted cm (blk bs q D0) (blk bs q D) := by
  have := h (q + 2)
  rwa [blk_behind (k := 2) h1 (by omega), blk_behind (k := 2) h3 (by omega), Nat.add_sub_cancel] at this
theorem runs_all {L0 L : List (α × Nat)} {bs : Nat} (hl : L0.length ≤ bs) (hl2 : L.length ≤ bs) (h : ∀ q, Sorted cm (blk bs q L0) (blk bs q L)) : Sorted cm L0 L := by
  have := h 0
  have e1 : blk bs 0 (L0 ++ []) = L0 := blk_zero (.inr ⟨hl, rfl⟩)
  have e2 : blk bs 0 (L ++ []) = L := blk_zero (.inr ⟨hl2, rfl⟩)
  rw [List.append_nil] at e1 e2
  rwa [e1, e2] at this
end

end Go.Proofs.Ytefolbfopjfbcaa
