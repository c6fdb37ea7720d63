/- Places between values: the order of cuts, intervals as spans of cuts. -/
import Derived.Test.YtdmabhbhlnpkgaaDoorIvPure
namespace Go.Proofs.YtdmabhbhlnpkgaaDoor

/-- a place: directly before a value, or directly after it -/
abbrev Cut := Val × Bool
def cmB (x y : Bool) : Int := if x = y then 0 else if y then -1 else 1
def cmC (a b : Cut) : Int := lex (cmpV a.1 b.1) (cmB a.2 b.2)
def VC1 (a : Cut) : Prop := validV a.1 = true
theorem cmB_anti (x y : Bool) : cmB y x = -cmB x y := by cases x <;> cases y <;> decide
theorem cmB_tr (x y z : Bool) : TR (cmB x y) (cmB y z) (cmB x z) := by cases x <;> cases y <;> cases z <;> (unfold TR; decide)
theorem cmB_zero {x y : Bool} : cmB x y = 0 ↔ x = y := by cases x <;> cases y <;> decide
theorem validV_parts {x : Val} (h : validV x = true) : x.size ≤ 1024 ∧ x.height ≤ 16 ∧ SoundV nameB x := by
  unfold validV at h
  simp only [Bool.and_eq_true, decide_eq_true_eq] at h
  exact ⟨h.1.1, h.1.2, soundB_iff.1 h.2⟩
theorem validV_of {x : Val} (h1 : x.size ≤ 1024) (h2 : x.height ≤ 16) (h3 : SoundV nameB x) : validV x = true := by
  unfold validV
  rw [decide_eq_true h1, decide_eq_true h2, soundB_true h3]
  rfl
theorem lin_cut : Lin cmC VC1 := by
  refine ⟨fun x y => lex_anti (cmpV_anti _ _) (cmB_anti _ _), fun x y z => TR.lx (cmpV_tr _ _ _) (cmB_tr _ _ _), fun x y hx hy h => ?_⟩
  have h' := lex_zero.1 h
  exact Prod.ext (cmpV_same (nm := nameB) x.1 y.1 (validV_parts hx).2.2 (validV_parts hy).2.2 h'.1) (cmB_zero.1 h'.2)
theorem cmC_rng (a b : Cut) : -1 ≤ cmC a b ∧ cmC a b ≤ 1 := lex_rng (cmpV_rng _ _) (by unfold cmB; split; omega; split <;> omega)

def vMin : Val := .mk 1 0 ByteArray.empty [] []
def vMax : Val := .mk 11 0 ByteArray.empty [] []
theorem valid_leaf {k : Int} (hk : k = 1 ∨ k = 11) : validV (.mk k 0 ByteArray.empty [] []) = true := by
  refine validV_of ?_ ?_ ?_
  · rw [size_parts]; unfold Val.parts; rw [if_neg (by show ¬ k = 6; omega), if_neg (by show ¬ k = 5; omega)]; simp [sizeL]
  · rw [height_parts]; unfold Val.parts; rw [if_neg (by show ¬ k = 6; omega), if_neg (by show ¬ k = 5; omega)]; simp [heightL]
  · refine (SoundV_iff _ _).2 ⟨?_, by simp [Val.l], by simp [Val.d], by simp [Val.d, NamesP]⟩
    rcases hk with rfl | rfl <;> simp [HeadP, Val.k, Val.n, Val.t, Val.l, Val.d]
theorem kind_range {x : Val} (h : validV x = true) : 1 ≤ x.k ∧ x.k ≤ 11 := by
  have := ((SoundV_iff _ _).1 (validV_parts h).2.2).1
  unfold HeadP at this
  omega
theorem min_le {a : Cut} (h : VC1 a) : cmC (vMin, false) a ≤ 0 := by
  have hk := kind_range h
  unfold cmC lex
  by_cases h1 : a.1.k = 1
  · have : cmpV vMin a.1 = 0 := cmpV_other (by rw [h1]; rfl) (by decide) (by decide) (by decide) (by decide) (by decide) (by decide) (by decide) (by decide)
    rw [this]
    simp
    unfold cmB
    split
    · omega
    · rename_i hne
      cases hb : a.2
      · exact absurd hb.symm hne
      · simp
  · have : cmpV vMin a.1 = cmpI 1 a.1.k := cmpV_kind (by show (1 : Int) ≠ a.1.k; omega)
    have h2 := cmpI_ways 1 a.1.k
    rw [this]
    split <;> omega
theorem le_max {a : Cut} (h : VC1 a) : cmC a (vMax, true) ≤ 0 := by
  have hk := kind_range h
  unfold cmC lex
  by_cases h1 : a.1.k = 11
  · have : cmpV a.1 vMax = 0 := cmpV_other (by rw [h1]; rfl) (by omega) (by omega) (by omega) (by omega) (by omega) (by omega) (by omega) (by omega)
    rw [this]
    simp
    unfold cmB
    split
    · omega
    · simp
  · have : cmpV a.1 vMax = cmpI a.1.k 11 := cmpV_kind (by show a.1.k ≠ (11 : Int); omega)
    have h2 := cmpI_ways a.1.k 11
    rw [this]
    split <;> omega

/-- an interval: lower end, upper end, are they in it -/
structure Iv where
  lo : Val
  hi : Val
  li : Bool
  hin : Bool
/-- its span -/
def Iv.sp (x : Iv) : Cut × Cut := ((x.lo, !x.li), (x.hi, x.hin))
/-- it is not empty -/
noncomputable def Iv.ne (x : Iv) : Bool := validV x.lo && validV x.hi && decide (cmC x.sp.1 x.sp.2 < 0)
/-- the spans of a list of intervals -/
noncomputable def spansL (l : List Iv) : List (Cut × Cut) := (l.filter Iv.ne).map Iv.sp
def ivOf (s : Cut × Cut) : Iv := ⟨s.1.1, s.2.1, !s.1.2, s.2.2⟩
theorem sp_ivOf (s : Cut × Cut) : (ivOf s).sp = s := by
  obtain ⟨⟨a, b⟩, c, d⟩ := s
  simp [ivOf, Iv.sp]
theorem ivOf_sp (x : Iv) : ivOf x.sp = x := by
  obtain ⟨a, b, c, d⟩ := x
  simp [ivOf, Iv.sp]
theorem ne_sp {x : Iv} (h : x.ne = true) : cmC x.sp.1 x.sp.2 < 0 ∧ VC1 x.sp.1 ∧ VC1 x.sp.2 := by
  unfold Iv.ne at h
  simp only [Bool.and_eq_true, decide_eq_true_eq] at h
  exact ⟨h.2, h.1.1, h.1.2⟩
theorem ne_of_sp {s : Cut × Cut} (h : cmC s.1 s.2 < 0 ∧ VC1 s.1 ∧ VC1 s.2) : (ivOf s).ne = true := by
  unfold Iv.ne
  rw [sp_ivOf]
  have h1 : validV (ivOf s).lo = true := h.2.1
  have h2 : validV (ivOf s).hi = true := h.2.2
  rw [h1, h2, decide_eq_true h.1]
  rfl
theorem spansL_ne {l : List Iv} : ∀ s ∈ spansL l, cmC s.1 s.2 < 0 ∧ VC1 s.1 ∧ VC1 s.2 := by
  intro s hs
  obtain ⟨x, hx, rfl⟩ := List.mem_map.1 hs
  exact ne_sp (List.mem_filter.1 hx).2
theorem spansL_app (l m : List Iv) : spansL (l ++ m) = spansL l ++ spansL m := by simp [spansL]
theorem spansL_snoc (l : List Iv) (x : Iv) : spansL (l ++ [x]) = if x.ne then spansL l ++ [x.sp] else spansL l := by
  rw [spansL_app]
  cases h : x.ne <;> simp [spansL, h]
/-- the spans of a normal form are itself -/
theorem spansL_of {n : List (Cut × Cut)} (h : ∀ s ∈ n, cmC s.1 s.2 < 0 ∧ VC1 s.1 ∧ VC1 s.2) : spansL (n.map ivOf) = n := by
  induction n with
  | nil => rfl
  | cons s r ih =>
    have e : spansL ((s :: r).map ivOf) = (ivOf s).sp :: spansL (r.map ivOf) := by
      simp [spansL, ne_of_sp (h s (by simp))]
    rw [e, sp_ivOf, ih fun t ht => h t (by simp [ht])]
/-- m is the normal form of a set of places -/
def IsNF (S : Cut → Prop) (m : List (Cut × Cut)) : Prop := NF cmC VC1 m ∧ ∀ a, inS cmC a m ↔ S a
theorem IsNF.unique {S T : Cut → Prop} {m n : List (Cut × Cut)} (h : IsNF S m) (k : IsNF T n) (e : ∀ a, VC1 a → (S a ↔ T a)) : m = n :=
  nf_unique lin_cut h.1 k.1 fun a ha => by rw [h.2, k.2]; exact e a ha
theorem inS_range {l : List (Cut × Cut)} (h : ∀ s ∈ l, cmC s.1 s.2 < 0 ∧ VC1 s.1 ∧ VC1 s.2) {a : Cut} (k : inS cmC a l) : cmC (vMin, false) a ≤ 0 ∧ cmC a (vMax, true) < 0 := by
  obtain ⟨s, hs, k1, k2⟩ := k
  have hv := h s hs
  have h1 := lin_cut.tr (vMin, false) s.1 a (min_le hv.2.1) k1
  have h2 := lin_cut.tr a s.2 (vMax, true) (by omega) (le_max hv.2.2)
  omega

end Go.Proofs.YtdmabhbhlnpkgaaDoor
