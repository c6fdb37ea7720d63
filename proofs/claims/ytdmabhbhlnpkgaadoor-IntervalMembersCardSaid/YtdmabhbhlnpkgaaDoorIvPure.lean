/- Lists of half-open spans over a linear order, in plain words: normal forms and their uniqueness, merging, meeting, the rest. -/
import Derived.Test.YtdmabhbhlnpkgaaDoorValOrder
namespace Go.Proofs.YtdmabhbhlnpkgaaDoor

/-- a comparison that is a total order, on the valid ones up to identity -/
structure Lin {α : Type} (cm : α → α → Int) (V : α → Prop) : Prop where
  anti : ∀ x y, cm y x = -cm x y
  tr : ∀ x y z, TR (cm x y) (cm y z) (cm x z)
  eq : ∀ x y, V x → V y → cm x y = 0 → x = y

section
variable {α : Type} {cm : α → α → Int} {V : α → Prop}
theorem Lin.self (H : Lin cm V) (x : α) : cm x x = 0 := by have := H.anti x x; omega

/-- a place lies in one of the spans -/
def inS (cm : α → α → Int) (a : α) (l : List (α × α)) : Prop := ∃ s ∈ l, cm s.1 a ≤ 0 ∧ cm a s.2 < 0
theorem inS_nil (a : α) : ¬ inS cm a [] := by rintro ⟨s, hs, _⟩; simp at hs
theorem inS_cons {a : α} {s : α × α} {l : List (α × α)} : inS cm a (s :: l) ↔ (cm s.1 a ≤ 0 ∧ cm a s.2 < 0) ∨ inS cm a l := by
  constructor
  · rintro ⟨t, ht, h⟩
    rcases List.mem_cons.1 ht with rfl | ht
    · exact .inl h
    · exact .inr ⟨t, ht, h⟩
  · rintro (h | ⟨t, ht, h⟩)
    · exact ⟨s, by simp, h⟩
    · exact ⟨t, by simp [ht], h⟩
theorem inS_app {a : α} {l m : List (α × α)} : inS cm a (l ++ m) ↔ inS cm a l ∨ inS cm a m := by
  induction l with
  | nil => simp only [List.nil_append]; exact ⟨.inr, fun h => h.resolve_left (inS_nil a)⟩
  | cons s r ih => rw [List.cons_append, inS_cons, inS_cons, ih, or_assoc]
theorem inS_one {a : α} {s : α × α} : inS cm a [s] ↔ (cm s.1 a ≤ 0 ∧ cm a s.2 < 0) := by rw [inS_cons]; exact ⟨fun h => h.resolve_right (inS_nil a), .inl⟩
theorem inS_perm {a : α} {l m : List (α × α)} (h : l.Perm m) : inS cm a l ↔ inS cm a m := by
  constructor
  · rintro ⟨s, hs, k⟩; exact ⟨s, h.subset hs, k⟩
  · rintro ⟨s, hs, k⟩; exact ⟨s, h.symm.subset hs, k⟩

/-- spans in normal form: none is empty, they ascend and do not touch -/
structure NF (cm : α → α → Int) (V : α → Prop) (l : List (α × α)) : Prop where
  ne : ∀ s ∈ l, cm s.1 s.2 < 0 ∧ V s.1 ∧ V s.2
  ord : l.Pairwise fun s t => cm s.2 t.1 < 0
theorem NF.nil : NF cm V [] := ⟨fun s hs => by simp at hs, .nil⟩
theorem NF.tail {s : α × α} {l : List (α × α)} (h : NF cm V (s :: l)) : NF cm V l := ⟨fun t ht => h.ne t (by simp [ht]), List.Pairwise.of_cons h.ord⟩
theorem NF.head {s : α × α} {l : List (α × α)} (h : NF cm V (s :: l)) {t : α × α} (ht : t ∈ l) : cm s.2 t.1 < 0 := List.rel_of_pairwise_cons h.ord ht

/-- a normal form is determined by what lies in it -/
theorem nf_unique (H : Lin cm V) : ∀ {l m : List (α × α)}, NF cm V l → NF cm V m → (∀ a, V a → (inS cm a l ↔ inS cm a m)) → l = m := by
  intro l
  induction l with
  | nil =>
    intro m _ hm h
    cases m with
    | nil => rfl
    | cons t q =>
      have ht := hm.ne t (by simp)
      exact absurd ((h t.1 ht.2.1).2 (inS_cons.2 (.inl ⟨by rw [H.self]; omega, ht.1⟩))) (inS_nil _)
  | cons s r ih =>
    intro m hl hm h
    cases m with
    | nil =>
      have hs := hl.ne s (by simp)
      exact absurd ((h s.1 hs.2.1).1 (inS_cons.2 (.inl ⟨by rw [H.self]; omega, hs.1⟩))) (inS_nil _)
    | cons t q =>
      have hs := hl.ne s (by simp)
      have ht := hm.ne t (by simp)
      have low : ∀ {s t : α × α} {r q : List (α × α)}, NF cm V (s :: r) → NF cm V (t :: q) → (inS cm s.1 (s :: r) → inS cm s.1 (t :: q)) → cm t.1 s.1 ≤ 0 := by
        intro s t r q hl hm h
        have hs := hl.ne s (by simp)
        rcases inS_cons.1 (h (inS_cons.2 (.inl ⟨by rw [H.self]; omega, hs.1⟩))) with k | ⟨u, hu, k⟩
        · exact k.1
        · have h1 := hm.head hu
          have h2 := (hm.ne t (by simp)).1
          have h3 := H.tr t.1 t.2 u.1 (by omega) (by omega)
          have h4 := H.tr t.1 u.1 s.1 (by omega) (by omega)
          omega
      have e1 : s.1 = t.1 := by
        have a1 := low hl hm (h s.1 hs.2.1).1
        have a2 := low hm hl (h t.1 ht.2.1).2
        have := H.anti s.1 t.1
        exact H.eq _ _ hs.2.1 ht.2.1 (by omega)
      have up : ∀ {s t : α × α} {r q : List (α × α)}, s.1 = t.1 → NF cm V (s :: r) → (inS cm s.2 (t :: q) → inS cm s.2 (s :: r)) → ¬ cm s.2 t.2 < 0 := by
        intro s t r q e hl h hlt
        have hs := hl.ne s (by simp)
        have := h (inS_cons.2 (.inl ⟨by rw [← e]; omega, hlt⟩))
        rcases inS_cons.1 this with k | ⟨u, hu, k⟩
        · have := H.self s.2; omega
        · have h1 := hl.head hu
          have := H.anti s.2 u.1
          omega
      have e2 : s.2 = t.2 := by
        have a1 := up e1 hl (h s.2 hs.2.2).2
        have a2 := up e1.symm hm (h t.2 ht.2.2).1
        have := H.anti s.2 t.2
        exact H.eq _ _ hs.2.2 ht.2.2 (by omega)
      obtain rfl : s = t := Prod.ext e1 e2
      congr 1
      refine ih hl.tail hm.tail fun a ha => ?_
      have half : ∀ {r q : List (α × α)}, NF cm V (s :: r) → (inS cm a (s :: r) → inS cm a (s :: q)) → inS cm a r → inS cm a q := by
        intro r q hl h hr
        rcases inS_cons.1 (h (inS_cons.2 (.inr hr))) with k | k
        · obtain ⟨u, hu, k2⟩ := hr
          have h1 := hl.head hu
          have h2 := H.tr s.2 u.1 a (by omega) k2.1
          have := H.anti a s.2
          omega
        · exact k
      exact ⟨half hl (h a ha).1, half hm (h a ha).2⟩

/-- one step of merging -/
def stepS (cm : α → α → Int) (c : List (α × α)) (s : α × α) : List (α × α) :=
  match c.getLast? with
  | none => c ++ [s]
  | some l => if cm l.2 s.1 < 0 then c ++ [s] else if cm l.2 s.2 < 0 then c.dropLast ++ [(l.1, s.2)] else c
def mergeS (cm : α → α → Int) (l : List (α × α)) : List (α × α) := l.foldl (stepS cm) []
theorem mergeS_snoc (l : List (α × α)) (s : α × α) : mergeS cm (l ++ [s]) = stepS cm (mergeS cm l) s := by unfold mergeS; rw [List.foldl_append]; rfl

/-- what merging keeps -/
structure MI (cm : α → α → Int) (V : α → Prop) (P c : List (α × α)) : Prop where
  nf : NF cm V c
  mem : ∀ a, inS cm a c ↔ inS cm a P
  len : c.length ≤ P.length
  low : ∀ l ∈ c, ∃ p ∈ P, l.1 = p.1
theorem pw_snoc {β : Type} {R : β → β → Prop} {l : List β} {a : β} : (l ++ [a]).Pairwise R ↔ l.Pairwise R ∧ ∀ x ∈ l, R x a := by
  rw [List.pairwise_append]
  constructor
  · rintro ⟨h1, _, h3⟩; exact ⟨h1, fun x hx => h3 x hx a (by simp)⟩
  · rintro ⟨h1, h2⟩; exact ⟨h1, by simp, fun x hx y hy => by simp at hy; subst hy; exact h2 x hx⟩
theorem MI.step (H : Lin cm V) {P c : List (α × α)} {s : α × α} (h : MI cm V P c) (hs : cm s.1 s.2 < 0 ∧ V s.1 ∧ V s.2) (hlo : ∀ p ∈ P, cm p.1 s.1 ≤ 0) : MI cm V (P ++ [s]) (stepS cm c s) := by
  rcases List.eq_nil_or_concat c with rfl | ⟨d, l, rfl⟩
  · have e : stepS cm [] s = [s] := rfl
    rw [e]
    refine ⟨⟨fun t ht => by simp at ht; subst ht; exact hs, by simp⟩, fun a => ?_, by simp, fun t ht => ⟨s, by simp, by simp at ht; rw [ht]⟩⟩
    rw [inS_app]
    exact ⟨.inr, fun k => k.resolve_left fun hp => inS_nil a ((h.mem a).2 hp)⟩
  · rw [List.concat_eq_append] at h ⊢
    have hlen := h.len
    simp only [List.length_append, List.length_cons, List.length_nil] at hlen
    have hl := h.nf.ne l (by simp)
    obtain ⟨hd, hdl⟩ := pw_snoc.1 h.nf.ord
    have hls : cm l.1 s.1 ≤ 0 := by
      obtain ⟨p, hp, e⟩ := h.low l (by simp)
      rw [e]; exact hlo p hp
    have e0 : (d ++ [l]).getLast? = some l := by simp
    unfold stepS
    rw [e0]
    simp only
    by_cases h1 : cm l.2 s.1 < 0
    · rw [if_pos h1]
      refine ⟨⟨fun t ht => ?_, pw_snoc.2 ⟨h.nf.ord, fun t ht => ?_⟩⟩, fun a => ?_, by simp; omega, fun t ht => ?_⟩
      · rcases List.mem_append.1 ht with ht | ht
        · exact h.nf.ne t ht
        · simp at ht; subst ht; exact hs
      · rcases List.mem_append.1 ht with ht | ht
        · have a1 := hdl t ht
          have a2 := H.tr t.2 l.1 l.2 (by omega) (by omega)
          have a3 := H.tr t.2 l.2 s.1 (by omega) (by omega)
          omega
        · simp at ht; subst ht; exact h1
      · rw [inS_app (l := d ++ [l]), inS_app (l := P), h.mem]
      · rcases List.mem_append.1 ht with ht | ht
        · obtain ⟨p, hp, e⟩ := h.low t ht; exact ⟨p, by simp [hp], e⟩
        · simp at ht; subst ht; exact ⟨t, by simp, rfl⟩
    · rw [if_neg h1]
      by_cases h2 : cm l.2 s.2 < 0
      · rw [if_pos h2, List.dropLast_concat]
        refine ⟨⟨fun t ht => ?_, pw_snoc.2 ⟨hd, hdl⟩⟩, fun a => ?_, by simp; omega, fun t ht => ?_⟩
        · rcases List.mem_append.1 ht with ht | ht
          · exact h.nf.ne t (by simp [ht])
          · simp at ht; subst ht
            have := H.tr l.1 l.2 s.2 (by omega) (by omega)
            exact ⟨by show cm l.1 s.2 < 0; omega, hl.2.1, hs.2.2⟩
        · rw [inS_app (l := d), inS_app (l := P), ← h.mem, inS_app (l := d), or_assoc]
          apply or_congr Iff.rfl
          rw [inS_one, inS_one, inS_one]
          simp only
          constructor
          · rintro ⟨k1, k2⟩
            by_cases k3 : cm a l.2 < 0
            · exact .inl ⟨k1, k3⟩
            · have := H.anti a l.2
              have := H.anti l.2 s.1
              have := H.tr s.1 l.2 a (by omega) (by omega)
              exact .inr ⟨by omega, k2⟩
          · rintro (⟨k1, k2⟩ | ⟨k1, k2⟩)
            · have := H.tr a l.2 s.2 (by omega) (by omega)
              exact ⟨k1, by omega⟩
            · have := H.tr l.1 s.1 a hls k1
              exact ⟨by omega, k2⟩
        · rcases List.mem_append.1 ht with ht | ht
          · obtain ⟨p, hp, e⟩ := h.low t (by simp [ht]); exact ⟨p, by simp [hp], e⟩
          · simp at ht; subst ht
            obtain ⟨p, hp, e⟩ := h.low l (by simp)
            exact ⟨p, by simp [hp], e⟩
      · rw [if_neg h2]
        refine ⟨h.nf, fun a => ?_, by simp; omega, fun t ht => ?_⟩
        · rw [inS_app (l := P), ← h.mem]
          refine ⟨.inl, fun k => k.elim id fun k => ?_⟩
          rw [inS_one] at k
          rw [inS_app, inS_one]
          have := H.tr l.1 s.1 a hls k.1
          have := H.anti s.2 l.2
          have := H.tr a s.2 l.2 (by omega) (by omega)
          exact .inr ⟨by omega, by omega⟩
        · obtain ⟨p, hp, e⟩ := h.low t ht; exact ⟨p, by simp [hp], e⟩
/-- merging a list that is sorted by its beginnings -/
theorem mergeS_ok (H : Lin cm V) {l : List (α × α)} (hne : ∀ s ∈ l, cm s.1 s.2 < 0 ∧ V s.1 ∧ V s.2) (hs : l.Pairwise fun s t => cm s.1 t.1 ≤ 0) : MI cm V l (mergeS cm l) := by
  have key : ∀ i, i ≤ l.length → MI cm V (l.take i) (mergeS cm (l.take i)) := by
    intro i
    induction i with
    | zero => intro _; exact ⟨NF.nil, fun a => Iff.rfl, by simp [mergeS], fun t ht => by simp [mergeS] at ht⟩
    | succ i ih =>
      intro hi
      have hx : l[i]? = some l[i] := List.getElem?_eq_getElem (by omega)
      rw [take_snoc' hx, mergeS_snoc]
      refine (ih (by omega)).step H (hne _ (List.getElem_mem _)) fun p hp => ?_
      have h2 : (l.take i ++ [l[i]]).Pairwise fun s t => cm s.1 t.1 ≤ 0 := by
        rw [← take_snoc' hx]
        exact hs.sublist (List.take_sublist _ _)
      exact (pw_snoc.1 h2).2 p hp
  have := key l.length (Nat.le_refl _)
  rwa [List.take_length] at this
theorem stepS_len (c : List (α × α)) (s : α × α) : (stepS cm c s).length ≤ c.length + 1 := by
  unfold stepS
  split
  · simp
  · split
    · simp
    · split
      · simp
      · omega
theorem mergeS_len (l : List (α × α)) : (mergeS cm l).length ≤ l.length := by
  have : ∀ c : List (α × α), (l.foldl (stepS cm) c).length ≤ c.length + l.length := by
    induction l with
    | nil => intro c; simp
    | cons s r ih =>
      intro c
      have h1 := ih (stepS cm c s)
      have h2 := stepS_len (cm := cm) c s
      simp only [List.foldl_cons, List.length_cons]
      omega
  simpa [mergeS] using this []

/-- the meeting of two normal forms, i and k spans passed -/
structure MeI (cm : α → α → Int) (V : α → Prop) (l m L R c : List (α × α)) : Prop where
  nf : NF cm V c
  mem : ∀ a, (inS cm a l ∧ inS cm a m) ↔ (inS cm a c ∨ (inS cm a L ∧ inS cm a R))
  up : ∀ p ∈ c, (∀ s ∈ L, cm p.2 s.1 < 0) ∨ (∀ t ∈ R, cm p.2 t.1 < 0)
def maxS (cm : α → α → Int) (a b : α) : α := if cm a b < 0 then b else a
def minS (cm : α → α → Int) (a b : α) : α := if cm b a < 0 then b else a
theorem maxS_le (H : Lin cm V) {a b x : α} : cm (maxS cm a b) x ≤ 0 ↔ cm a x ≤ 0 ∧ cm b x ≤ 0 := by
  unfold maxS
  split
  · rename_i h
    exact ⟨fun k => ⟨by have := H.tr a b x (by omega) k; omega, k⟩, fun k => k.2⟩
  · rename_i h
    have := H.anti a b
    exact ⟨fun k => ⟨k, by have := H.tr b a x (by omega) k; omega⟩, fun k => k.1⟩
theorem lt_minS (H : Lin cm V) {a b x : α} : cm x (minS cm a b) < 0 ↔ cm x a < 0 ∧ cm x b < 0 := by
  unfold minS
  split
  · rename_i h
    exact ⟨fun k => ⟨by have := H.tr x b a (by omega) (by omega); omega, k⟩, fun k => k.2⟩
  · rename_i h
    have := H.anti b a
    exact ⟨fun k => ⟨k, by have := H.tr x a b (by omega) (by omega); omega⟩, fun k => k.1⟩
theorem lt_maxS (H : Lin cm V) {a b x : α} (h : cm x a < 0 ∨ cm x b < 0) : cm x (maxS cm a b) < 0 := by
  unfold maxS
  split
  · rename_i k
    rcases h with h | h
    · have := H.tr x a b (by omega) (by omega); omega
    · exact h
  · rename_i k
    have := H.anti a b
    rcases h with h | h
    · exact h
    · have := H.tr x b a (by omega) (by omega); omega
theorem maxS_V {a b : α} (ha : V a) (hb : V b) : V (maxS cm a b) := by unfold maxS; split <;> assumption
theorem minS_V {a b : α} (ha : V a) (hb : V b) : V (minS cm a b) := by unfold minS; split <;> assumption
def addS (cm : α → α → Int) (c : List (α × α)) (u : α × α) : List (α × α) := if cm u.1 u.2 < 0 then c ++ [u] else c
theorem inS_addS (H : Lin cm V) {c : List (α × α)} {u : α × α} {a : α} : inS cm a (addS cm c u) ↔ inS cm a c ∨ (cm u.1 a ≤ 0 ∧ cm a u.2 < 0) := by
  unfold addS
  split
  · rw [inS_app, inS_one]
  · rename_i h
    refine ⟨.inl, fun k => k.elim id fun k => ?_⟩
    have := H.tr u.1 a u.2 k.1 (by omega)
    omega
theorem MeI.start {l m : List (α × α)} : MeI cm V l m l m [] := ⟨NF.nil, fun a => ⟨.inr, fun h => h.resolve_left (inS_nil a)⟩, fun p hp => by simp at hp⟩
theorem MeI.add (H : Lin cm V) {l m L R c : List (α × α)} {s t : α × α} (h : MeI cm V l m (s :: L) (t :: R) c) (hl : NF cm V (s :: L)) (hr : NF cm V (t :: R)) :
    NF cm V (addS cm c (maxS cm s.1 t.1, minS cm s.2 t.2)) := by
  have hs := hl.ne s (by simp)
  have ht := hr.ne t (by simp)
  unfold addS
  split
  · rename_i hu
    refine ⟨fun p hp => ?_, pw_snoc.2 ⟨h.nf.ord, fun p hp => ?_⟩⟩
    · rcases List.mem_append.1 hp with hp | hp
      · exact h.nf.ne p hp
      · simp at hp; subst hp
        exact ⟨hu, maxS_V hs.2.1 ht.2.1, minS_V hs.2.2 ht.2.2⟩
    · rcases h.up p hp with k | k
      · exact lt_maxS H (.inl (k s (by simp)))
      · exact lt_maxS H (.inr (k t (by simp)))
  · exact h.nf
theorem MeI.left (H : Lin cm V) {l m L R c : List (α × α)} {s t : α × α} (h : MeI cm V l m (s :: L) (t :: R) c) (hl : NF cm V (s :: L)) (hr : NF cm V (t :: R)) (hlt : cm s.2 t.2 < 0) :
    MeI cm V l m L (t :: R) (addS cm c (maxS cm s.1 t.1, minS cm s.2 t.2)) := by
  refine ⟨h.add H hl hr, fun a => ?_, fun p hp => ?_⟩
  · rw [h.mem, inS_addS H, inS_cons, inS_cons]
    simp only
    rw [maxS_le H, lt_minS H]
    constructor
    · rintro (k | ⟨k1 | k1, k2⟩)
      · exact .inl (.inl k)
      · rcases k2 with k2 | ⟨u, hu, k2⟩
        · exact .inl (.inr ⟨⟨k1.1, k2.1⟩, k1.2, k2.2⟩)
        · have := hr.head hu
          have := H.tr s.2 t.2 u.1 (by omega) (by omega)
          have := H.tr s.2 u.1 a (by omega) k2.1
          have := H.anti a s.2
          omega
      · exact .inr ⟨k1, k2⟩
    · rintro ((k | k) | k)
      · exact .inl k
      · exact .inr ⟨.inl ⟨k.1.1, k.2.1⟩, .inl ⟨k.1.2, k.2.2⟩⟩
      · exact .inr ⟨.inr k.1, k.2⟩
  · unfold addS at hp
    split at hp
    · rcases List.mem_append.1 hp with hp | hp
      · rcases h.up p hp with k | k
        · exact .inl fun u hu => k u (by simp [hu])
        · exact .inr k
      · simp at hp; subst hp
        refine .inl fun u hu => ?_
        have := hl.head hu
        show cm (minS cm s.2 t.2) u.1 < 0
        unfold minS
        split
        · have := H.anti s.2 t.2; omega
        · exact this
    · rcases h.up p hp with k | k
      · exact .inl fun u hu => k u (by simp [hu])
      · exact .inr k
theorem MeI.right (H : Lin cm V) {l m L R c : List (α × α)} {s t : α × α} (h : MeI cm V l m (s :: L) (t :: R) c) (hl : NF cm V (s :: L)) (hr : NF cm V (t :: R)) (hlt : ¬ cm s.2 t.2 < 0) :
    MeI cm V l m (s :: L) R (addS cm c (maxS cm s.1 t.1, minS cm s.2 t.2)) := by
  have hts := H.anti s.2 t.2
  refine ⟨h.add H hl hr, fun a => ?_, fun p hp => ?_⟩
  · rw [h.mem, inS_addS H, inS_cons, inS_cons]
    simp only
    rw [maxS_le H, lt_minS H]
    constructor
    · rintro (k | ⟨k1, k2 | k2⟩)
      · exact .inl (.inl k)
      · rcases k1 with k1 | ⟨u, hu, k1⟩
        · exact .inl (.inr ⟨⟨k1.1, k2.1⟩, k1.2, k2.2⟩)
        · have := hl.head hu
          have := H.tr t.2 s.2 u.1 (by omega) (by omega)
          have := H.tr t.2 u.1 a (by omega) k1.1
          have := H.anti a t.2
          omega
      · exact .inr ⟨k1, k2⟩
    · rintro ((k | k) | k)
      · exact .inl k
      · exact .inr ⟨.inl ⟨k.1.1, k.2.1⟩, .inl ⟨k.1.2, k.2.2⟩⟩
      · exact .inr ⟨k.1, .inr k.2⟩
  · unfold addS at hp
    split at hp
    · rcases List.mem_append.1 hp with hp | hp
      · rcases h.up p hp with k | k
        · exact .inl k
        · exact .inr fun u hu => k u (by simp [hu])
      · simp at hp; subst hp
        refine .inr fun u hu => ?_
        have := hr.head hu
        show cm (minS cm s.2 t.2) u.1 < 0
        unfold minS
        split
        · exact this
        · have := H.tr s.2 t.2 u.1 (by omega) (by omega); omega
    · rcases h.up p hp with k | k
      · exact .inl k
      · exact .inr fun u hu => k u (by simp [hu])
theorem MeI.done {l m L R c : List (α × α)} (h : MeI cm V l m L R c) (he : L = [] ∨ R = []) : NF cm V c ∧ ∀ a, inS cm a c ↔ inS cm a l ∧ inS cm a m := by
  refine ⟨h.nf, fun a => ?_⟩
  rw [h.mem]
  refine ⟨.inl, fun k => k.elim id fun k => ?_⟩
  rcases he with rfl | rfl
  · exact absurd k.1 (inS_nil a)
  · exact absurd k.2 (inS_nil a)

/-- the rest of a normal form, up to a place f -/
structure ReI (cm : α → α → Int) (V : α → Prop) (m0 : α) (n L : List (α × α)) (f : α) (c : List (α × α)) : Prop where
  vf : V f
  lo : cm m0 f ≤ 0
  mem : ∀ a, inS cm a c ↔ cm m0 a ≤ 0 ∧ cm a f < 0 ∧ ¬ inS cm a n
  sep : ∀ a, ¬ cm a f < 0 → (inS cm a n ↔ inS cm a L)
  gap : ∀ s ∈ L, cm f s.1 ≤ 0
theorem ReI.start (H : Lin cm V) {m0 : α} {n : List (α × α)} (hv : V m0) (hlo : ∀ s ∈ n, cm m0 s.1 ≤ 0) : ReI cm V m0 n n m0 [] := by
  refine ⟨hv, by rw [H.self]; omega, fun a => ?_, fun a _ => Iff.rfl, hlo⟩
  refine ⟨fun h => absurd h (inS_nil a), fun ⟨h1, h2, _⟩ => ?_⟩
  have := H.anti m0 a
  omega
theorem ReI.next (H : Lin cm V) {m0 f : α} {n L c : List (α × α)} {s : α × α} (h : ReI cm V m0 n (s :: L) f c) (hn : NF cm V (s :: L)) : ∀ c', (∀ a, inS cm a c' ↔ inS cm a c ∨ (cm f a ≤ 0 ∧ cm a s.1 < 0)) → ReI cm V m0 n L s.2 c' := by
  intro c' hc'
  have hs := hn.ne s (by simp)
  have hfs := h.gap s (by simp)
  have hf2 := H.tr f s.1 s.2 hfs (by omega)
  have hm2 := H.tr m0 f s.2 h.lo (by omega)
  refine ⟨hs.2.2, by omega, fun a => ?_, fun a ha => ?_, fun t ht => by have := hn.head ht; omega⟩
  · rw [hc', h.mem]
    constructor
    · rintro (⟨k1, k2, k3⟩ | ⟨k1, k2⟩)
      · have := H.tr a f s.2 (by omega) (by omega)
        exact ⟨k1, by omega, k3⟩
      · have := H.tr m0 f a h.lo k1
        have := H.tr a s.1 s.2 (by omega) (by omega)
        refine ⟨by omega, by omega, fun hin => ?_⟩
        have := H.anti a f
        rcases inS_cons.1 ((h.sep a (by omega)).1 hin) with k | ⟨u, hu, k⟩
        · have := H.anti a s.1; omega
        · have := hn.head hu
          have := H.tr s.2 u.1 a (by omega) k.1
          have := H.tr s.1 s.2 a (by omega) (by omega)
          have := H.anti a s.1
          omega
    · rintro ⟨k1, k2, k3⟩
      by_cases hf : cm a f < 0
      · exact .inl ⟨k1, hf, k3⟩
      · have := H.anti a f
        refine .inr ⟨by omega, ?_⟩
        have hnot : ¬ inS cm a (s :: L) := fun h' => k3 ((h.sep a hf).2 h')
        have h1 : ¬ (cm s.1 a ≤ 0 ∧ cm a s.2 < 0) := fun h' => hnot (inS_cons.2 (.inl h'))
        have := H.anti a s.1
        omega
  · have h1 : ¬ cm a f < 0 := fun h' => by
      have := H.tr a f s.2 (by omega) (by omega)
      omega
    rw [h.sep a h1, inS_cons]
    exact ⟨fun k => k.resolve_left fun k => ha k.2, .inr⟩
theorem ReI.done (H : Lin cm V) {m0 m1 f : α} {n c : List (α × α)} (h : ReI cm V m0 n [] f c) (hle : cm f m1 ≤ 0) : ∀ c', (∀ a, inS cm a c' ↔ inS cm a c ∨ (cm f a ≤ 0 ∧ cm a m1 < 0)) → ∀ a, inS cm a c' ↔ cm m0 a ≤ 0 ∧ cm a m1 < 0 ∧ ¬ inS cm a n := by
  intro c' hc' a
  rw [hc', h.mem]
  constructor
  · rintro (⟨k1, k2, k3⟩ | ⟨k1, k2⟩)
    · have := H.tr a f m1 (by omega) hle
      exact ⟨k1, by omega, k3⟩
    · have := H.tr m0 f a h.lo k1
      have := H.anti a f
      exact ⟨by omega, k2, fun k => inS_nil a ((h.sep a (by omega)).1 k)⟩
  · rintro ⟨k1, k2, k3⟩
    by_cases hf : cm a f < 0
    · exact .inl ⟨k1, hf, k3⟩
    · have := H.anti a f
      exact .inr ⟨by omega, k2⟩
/-- the normal form of the rest, as it grows -/
structure RnI (cm : α → α → Int) (V : α → Prop) (f : α) (c : List (α × α)) : Prop where
  nf : NF cm V c
  up : ∀ p ∈ c, cm p.2 f < 0
theorem RnI.start {m0 : α} : RnI cm V m0 [] := ⟨NF.nil, fun p hp => by simp at hp⟩
theorem RnI.add {f g : α} {c : List (α × α)} (h : RnI cm V f c) (hf : V f) (hg : V g) : NF cm V (addS cm c (f, g)) := by
  unfold addS
  split
  · rename_i hu
    refine ⟨fun p hp => ?_, pw_snoc.2 ⟨h.nf.ord, h.up⟩⟩
    rcases List.mem_append.1 hp with hp | hp
    · exact h.nf.ne p hp
    · simp at hp; subst hp; exact ⟨hu, hf, hg⟩
  · exact h.nf
theorem RnI.next (H : Lin cm V) {f g f' : α} {c : List (α × α)} (h : RnI cm V f c) (hf : V f) (hg : V g) (hfg : cm f g ≤ 0) (hlt : cm g f' < 0) : RnI cm V f' (addS cm c (f, g)) := by
  refine ⟨h.add hf hg, fun p hp => ?_⟩
  have key : ∀ p ∈ c, cm p.2 f' < 0 := fun p hp => by
    have := h.up p hp
    have := H.tr p.2 f g (by omega) hfg
    have := H.tr p.2 g f' (by omega) (by omega)
    omega
  unfold addS at hp
  split at hp
  · rcases List.mem_append.1 hp with hp | hp
    · exact key p hp
    · simp at hp; subst hp; exact hlt
  · exact key p hp
end

end Go.Proofs.YtdmabhbhlnpkgaaDoor
