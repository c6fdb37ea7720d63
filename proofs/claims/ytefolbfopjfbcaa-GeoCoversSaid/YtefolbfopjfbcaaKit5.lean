/- Rows of records: slices whose elements are records of s cells. -/
import Derived.Test.YtefolbfopjfbcaaKit4
namespace Go.Proofs.Ytefolbfopjfbcaa
open Go.RowKit

section
variable {α : Type} {rec : α → List Value} {s : Nat}

def flat (rec : α → List Value) (xs : List α) : List Value := xs.flatMap rec
theorem flat_append (rec : α → List Value) (xs ys : List α) : flat rec (xs ++ ys) = flat rec xs ++ flat rec ys := by simp [flat]
theorem flat_snoc (rec : α → List Value) (xs : List α) (a : α) : flat rec (xs ++ [a]) = flat rec xs ++ rec a := by simp [flat]
theorem flat_length (hs : ∀ a, (rec a).length = s) (xs : List α) : (flat rec xs).length = xs.length * s := by
  induction xs with
  | nil => simp [flat]
  | cons a l ih =>
    have : flat rec (a :: l) = rec a ++ flat rec l := rfl
    rw [this, List.length_append, ih, hs, List.length_cons, Nat.add_mul]
    omega
theorem flat_get (hs : ∀ a, (rec a).length = s) : ∀ {xs : List α} {i j : Nat} {a : α} {v : Value}, xs[i]? = some a → (rec a)[j]? = some v → (flat rec xs)[i * s + j]? = some v := by
  intro xs
  induction xs with
  | nil => intro i j a v h; simp at h
  | cons b l ih =>
    intro i j a v h1 h2
    have e : flat rec (b :: l) = rec b ++ flat rec l := rfl
    rw [e]
    cases i with
    | zero =>
      simp at h1
      subst h1
      have hj : j < (rec b).length := (List.getElem?_eq_some_iff.1 h2).1
      rw [Nat.zero_mul, Nat.zero_add, List.getElem?_append_left hj]
      exact h2
    | succ i =>
      have hb := hs b
      rw [List.getElem?_append_right (by rw [hb, Nat.add_mul]; omega), hb, show (i + 1) * s + j - s = i * s + j by rw [Nat.add_mul]; omega]
      exact ih (by simpa using h1) h2

/-- a slice of records -/
structure SR (s : Nat) (rec : α → List Value) (w : World) (A : Option Addr) (n c : Nat) (xs : List α) : Prop where
  ln : n = xs.length
  lc : n ≤ c
  el : 0 < n → ∃ b off, A = some ⟨b, off, none⟩ ∧ b < w.heap.size ∧ ∀ (i : Nat) (a : α), xs[i]? = some a → ∀ (j : Nat) (v : Value), (rec a)[j]? = some v → w.cell? ⟨b, off + i * s + j, none⟩ = some v
theorem SR.step {w w' : World} {A : Option Addr} {n c : Nat} {xs : List α} (h : SR s rec w A n c xs) (hb : Below w.heap.size w w') : SR s rec w' A n c xs := by
  refine ⟨h.ln, h.lc, fun hn => ?_⟩
  obtain ⟨b, off, h1, h2, h3⟩ := h.el hn
  exact ⟨b, off, h1, Nat.lt_of_lt_of_le h2 hb.size, fun i a hi j v hj => (hb.cell (p := ⟨b, off + i * s + j, none⟩) h2).trans (h3 i a hi j v hj)⟩
theorem SR.nil {w : World} {A : Option Addr} {c : Nat} : SR s rec w A 0 c ([] : List α) := ⟨rfl, Nat.zero_le _, fun h => absurd h (Nat.lt_irrefl 0)⟩
theorem SR.alloc {w : World} {A : Option Addr} {n c : Nat} {xs : List α} (h : SR s rec w A n c xs) (o : Obj) : SR s rec (w.alloc o) A n c xs := h.step ((Below.refl _ _).alloc (Nat.le_refl _) o)

theorem own_lt {w : World} {base : Nat} {e : TypeId} {size n : Nat} {v : Value} {xs : List Value} (h : w.ownsRow base e size v n xs) {g : Nat} (hg : v.ownBlock = some g) : g < w.heap.size := by
  rcases h.2 with ⟨rfl, _⟩ | ⟨g', cap, cur, rfl, _, hh, _⟩
  · simp [Value.ownBlock] at hg
  · simp [Value.ownBlock] at hg
    subst hg
    rcases Nat.lt_or_ge g' w.heap.size with hlt | hge
    · exact hlt
    · rw [Array.getElem?_eq_none hge] at hh; cases hh
theorem own_ne {w : World} {base : Nat} {e : TypeId} {size n : Nat} {v : Value} {xs : List Value} (h : w.ownsRow base e size v n xs) {g : Nat} (hg : g < base) : v.ownBlock ≠ some g := by
  rcases h.2 with ⟨rfl, _⟩ | ⟨g', cap, cur, rfl, hge, _⟩
  · simp [Value.ownBlock]
  · simp [Value.ownBlock]
    omega
theorem own_ge {w : World} {base : Nat} {e : TypeId} {size n : Nat} {v : Value} {xs : List Value} (h : w.ownsRow base e size v n xs) : ∀ g, v.ownBlock = some g → base ≤ g := by
  rcases h.2 with ⟨rfl, _⟩ | ⟨g', cap, cur, rfl, hge, _⟩
  · intro g hg; simp [Value.ownBlock] at hg
  · intro g hg
    simp [Value.ownBlock] at hg
    omega
theorem own_slice {w : World} {base : Nat} {e : TypeId} {size n : Nat} {v : Value} {xs : List Value} (h : w.ownsRow base e size v n xs) : ∃ A c, v = .slice A n c ∧ n ≤ c := by
  rcases h.2 with ⟨rfl, rfl⟩ | ⟨g, cap, cur, hv, _, _, hnc, _⟩
  · exact ⟨none, 0, rfl, Nat.le_refl _⟩
  · exact ⟨_, _, hv, hnc⟩
theorem own_step {w w' : World} {base : Nat} {e : TypeId} {size n : Nat} {v : Value} {xs : List Value} (h : w.ownsRow base e size v n xs) (hb : Below w.heap.size w w') : w'.ownsRow base e size v n xs := by
  refine ⟨h.1, ?_⟩
  rcases h.2 with h2 | ⟨g, cap, cur, hv, hg, hh, hr⟩
  · exact .inl h2
  · refine .inr ⟨g, cap, cur, hv, hg, ?_, hr⟩
    have hlt : g < w.heap.size := by
      rcases Nat.lt_or_ge g w.heap.size with hlt | hge
      · exact hlt
      · rw [Array.getElem?_eq_none hge] at hh; cases hh
    rw [hb.block g hlt]
    exact hh
/-- a row of the call's own reads as a slice of records -/
theorem SR.of_own {w : World} {base : Nat} {t : TypeId} {v : Value} {n : Nat} {xs : List α} (hs : ∀ a, (rec a).length = s) (h : w.ownsRow base t s v n (flat rec xs)) (hl : xs.length = n) : ∃ A c, v = .slice A n c ∧ SR s rec w A n c xs := by
  rcases h.2 with ⟨rfl, rfl⟩ | ⟨g, cap, cur, rfl, _, hh, hnc, _⟩
  · exact ⟨none, 0, rfl, hl.symm, Nat.le_refl _, fun h => absurd h (by omega)⟩
  · refine ⟨_, _, rfl, hl.symm, hnc, fun _ => ⟨g, 0, rfl, own_lt h rfl, fun i a hi j u hj => ?_⟩⟩
    have := h.cells (g := g) rfl (i * s + j) u (flat_get hs hi hj)
    rw [addr_add] at this
    rw [Nat.zero_add] at this ⊢
    exact this
theorem own_nil (w : World) (base : Nat) (e : TypeId) (size : Nat) : w.ownsRow base e size (.slice none 0 0) 0 [] := ⟨by simp, .inl ⟨rfl, rfl⟩⟩
end
end Go.Proofs.Ytefolbfopjfbcaa
