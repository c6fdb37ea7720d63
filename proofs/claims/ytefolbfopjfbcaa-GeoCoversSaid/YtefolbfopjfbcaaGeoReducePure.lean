/- The plain law of reduce: neighbouring ranges are joined. -/
import Derived.Test.YtefolbfopjfbcaaGeoCoverPure
namespace Go.Proofs.Ytefolbfopjfbcaa
open Go.RowKit

/-- the first i ranges of l, joined into acc; bs: which ranges begin a new one -/
structure JoI (A : Int) (l : List Rg) (bs : Nat → Bool) (i : Nat) (acc : List Rg) : Prop where
  last : ∃ d r x, acc = d ++ [r] ∧ l[i - 1]? = some x ∧ r.2 = x.2 ∧ RgOk A (x.2 + 1) acc
  cov : ∀ z, inR z (l.take i) → inR z acc
  len : acc.length = 1 + (List.range' 1 (i - 1)).countP bs
  pos : 0 < i
section
variable {A B : Int} {l : List Rg} {bs : Nat → Bool} {i : Nat} {acc : List Rg}
theorem RgOk.at_ (h : RgOk A B l) {i j : Nat} {x y : Rg} (hx : l[i]? = some x) (hy : l[j]? = some y) (hij : i < j) : x.2 + 2 ≤ y.1 := by
  obtain ⟨h1, rfl⟩ := List.getElem?_eq_some_iff.1 hx
  obtain ⟨h2, rfl⟩ := List.getElem?_eq_some_iff.1 hy
  exact List.pairwise_iff_getElem.1 h.gap i j h1 h2 hij
theorem inR_app {z : Int} {l m : List Rg} : inR z (l ++ m) ↔ inR z l ∨ inR z m := by
  constructor
  · rintro ⟨r, hr, hz⟩
    rcases List.mem_append.1 hr with hr | hr
    · exact .inl ⟨r, hr, hz⟩
    · exact .inr ⟨r, hr, hz⟩
  · rintro (⟨r, hr, hz⟩ | ⟨r, hr, hz⟩)
    · exact ⟨r, List.mem_append_left _ hr, hz⟩
    · exact ⟨r, List.mem_append_right _ hr, hz⟩
theorem inR_one {z : Int} {r : Rg} : inR z [r] ↔ r.1 ≤ z ∧ z ≤ r.2 := ⟨fun ⟨s, hs, hz⟩ => by simp at hs; subst hs; exact hz, fun h => ⟨r, by simp, h⟩⟩
theorem take_one_more {α : Type} {l : List α} {i : Nat} {x : α} (hx : l[i]? = some x) : l.take (i + 1) = l.take i ++ [x] := by rw [List.take_add_one, hx]; rfl
theorem JoI.start {x : Rg} (h : RgOk A B l) (hx : l[0]? = some x) : JoI A l bs 1 [x] := by
  have hm := List.mem_of_getElem? hx
  refine ⟨⟨[], x, x, rfl, hx, rfl, ⟨by simpa using h.ne x hm, by simp, by simpa using h.lo x hm, by simp; omega⟩⟩, fun z hz => ?_, rfl, by omega⟩
  rw [take_one_more hx] at hz
  simpa using hz
theorem count_step (bs : Nat → Bool) {i : Nat} (hi : 0 < i) : (List.range' 1 i).countP bs = (List.range' 1 (i - 1)).countP bs + if bs i then 1 else 0 := by
  obtain ⟨j, rfl⟩ : ∃ j, i = j + 1 := ⟨i - 1, by omega⟩
  rw [Nat.add_sub_cancel, List.range'_1_concat, List.countP_append]
  simp [List.countP_singleton, Nat.add_comm]
theorem JoI.add (J : JoI A l bs i acc) (h : RgOk A B l) {x : Rg} (hx : l[i]? = some x) (hb : bs i = true) : JoI A l bs (i + 1) (acc ++ [x]) := by
  obtain ⟨d, r, y, e, hy, hr, ok⟩ := J.last
  have hp := J.pos
  have hg := h.at_ hy hx (by omega)
  have hm := List.mem_of_getElem? hx
  have hne := h.ne x hm
  refine ⟨⟨acc, x, x, rfl, by simpa using hx, rfl, ⟨fun s hs => ?_, ?_, fun s hs => ?_, fun s hs => ?_⟩⟩, fun z hz => ?_, ?_, by omega⟩
  · rcases List.mem_append.1 hs with hs | hs
    · exact ok.ne s hs
    · simp at hs; subst hs; exact hne
  · refine List.pairwise_append.2 ⟨ok.gap, by simp, fun s hs t ht => ?_⟩
    simp at ht; subst ht
    have := ok.hi s hs
    omega
  · rcases List.mem_append.1 hs with hs | hs
    · exact ok.lo s hs
    · simp at hs; subst hs; exact h.lo s hm
  · rcases List.mem_append.1 hs with hs | hs
    · have := ok.hi s hs; omega
    · simp at hs; subst hs; omega
  · rw [take_one_more hx, inR_app] at hz
    exact inR_app.2 (hz.imp (J.cov z) id)
  · rw [List.length_append, J.len, Nat.add_sub_cancel, count_step bs hp, hb]
    simp
    omega
theorem JoI.join {d : List Rg} {r : Rg} (J : JoI A l bs i (d ++ [r])) (h : RgOk A B l) {x : Rg} (hx : l[i]? = some x) (hb : bs i = false) : JoI A l bs (i + 1) (d ++ [(r.1, x.2)]) := by
  obtain ⟨d', r', y, e, hy, hr, ok⟩ := J.last
  obtain ⟨rfl, e2⟩ := List.append_inj' e rfl
  simp only [List.cons.injEq, and_true] at e2
  subst e2
  have hp := J.pos
  have hg := h.at_ hy hx (by omega)
  have hm := List.mem_of_getElem? hx
  have hne := h.ne x hm
  have hrr := ok.ne r (by simp)
  have hgp := List.pairwise_append.1 ok.gap
  refine ⟨⟨d, (r.1, x.2), x, rfl, by simpa using hx, rfl, ⟨fun s hs => ?_, ?_, fun s hs => ?_, fun s hs => ?_⟩⟩, fun z hz => ?_, ?_, by omega⟩
  · rcases List.mem_append.1 hs with hs | hs
    · exact ok.ne s (by simp [hs])
    · simp at hs; subst hs; show r.1 ≤ x.2; omega
  · refine List.pairwise_append.2 ⟨hgp.1, by simp, fun s hs t ht => ?_⟩
    simp at ht; subst ht
    exact hgp.2.2 s hs r (by simp)
  · rcases List.mem_append.1 hs with hs | hs
    · exact ok.lo s (by simp [hs])
    · simp at hs; subst hs; exact ok.lo r (by simp)
  · rcases List.mem_append.1 hs with hs | hs
    · have := ok.hi s (by simp [hs]); omega
    · simp at hs; subst hs; show x.2 < x.2 + 1; omega
  · rw [take_one_more hx, inR_app] at hz
    rcases hz with hz | hz
    · rcases inR_app.1 (J.cov z hz) with hz | hz
      · exact inR_app.2 (.inl hz)
      · have := inR_one.1 hz
        exact inR_app.2 (.inr (inR_one.2 ⟨this.1, by show z ≤ x.2; omega⟩))
    · have := inR_one.1 hz
      exact inR_app.2 (.inr (inR_one.2 ⟨by show r.1 ≤ z; omega, this.2⟩))
  · have := J.len
    rw [List.length_append] at this ⊢
    rw [Nat.add_sub_cancel, count_step bs hp, hb]
    simpa using this
end

/-- there are no more ranges than numbers -/
theorem RgOk.len_le {B : Int} : ∀ {l : List Rg} {A : Int}, RgOk A B l → (l.length : Int) ≤ max 0 (B - A) := by
  intro l
  induction l with
  | nil => intro A _; simp; omega
  | cons r t ih =>
    intro A h
    have hr := h.ne r (by simp)
    have hl := h.lo r (by simp)
    have hh := h.hi r (by simp)
    have ht : RgOk (r.2 + 2) B t := ⟨fun s hs => h.ne s (by simp [hs]), List.Pairwise.of_cons h.gap, fun s hs => List.rel_of_pairwise_cons h.gap hs, fun s hs => h.hi s (by simp [hs])⟩
    have := ih ht
    simp only [List.length_cons]
    omega

end Go.Proofs.Ytefolbfopjfbcaa
