/- Plain: the program's Inside and the reference's are one. -/
import Derived.Test.YtefolbfopjfbcaaGeoRefInside
namespace Go.Proofs.Ytefolbfopjfbcaa

def parE (px py : Int) : List Edge → Bool
  | [] => false
  | e :: r => xor (crossE px py e) (parE px py r)
theorem polyE_eq (px py : Int) (E : List Edge) : ∀ odd, polyE px py odd E = (E.any (edgeE px py) || xor odd (parE px py E)) := by
  induction E with
  | nil => intro odd; simp [polyE, parE]
  | cons e r ih =>
    intro odd
    simp only [polyE, parE, List.any_cons]
    cases h1 : edgeE px py e
    · rw [if_neg (by simp), ih]
      cases h2 : crossE px py e <;> cases odd <;> simp
    · simp
def edgesG (a : Int × Int) : List (Int × Int) → List Edge
  | [] => []
  | b :: r => (a, b) :: edgesG b r
theorem polyFrom_eq (px py : Int) (ps : List (Int × Int)) : ∀ (ax ay : Int) (odd : Bool), polyFrom ax ay odd px py ps = polyE px py odd (edgesG (ax, ay) ps) := by
  induction ps with
  | nil => intro ax ay odd; rfl
  | cons b r ih =>
    intro ax ay odd
    simp only [polyFrom, edgesG, polyE]
    rw [ih]
    rfl

theorem parE_perm (px py : Int) {E F : List Edge} (h : E.Perm F) : parE px py E = parE px py F := by
  induction h with
  | nil => rfl
  | cons x _ ih => simp only [parE, ih]
  | swap x y l => simp only [parE]; cases crossE px py x <;> cases crossE px py y <;> simp
  | trans _ _ ih1 ih2 => exact ih1.trans ih2
theorem any_perm {α : Type} (p : α → Bool) {E F : List α} (h : E.Perm F) : E.any p = F.any p := by
  rw [Bool.eq_iff_iff, List.any_eq_true, List.any_eq_true]
  exact ⟨fun ⟨x, hx, hp⟩ => ⟨x, h.mem_iff.1 hx, hp⟩, fun ⟨x, hx, hp⟩ => ⟨x, h.mem_iff.2 hx, hp⟩⟩
theorem polyE_perm (px py : Int) {E F : List Edge} (h : E.Perm F) (odd : Bool) : polyE px py odd E = polyE px py odd F := by
  rw [polyE_eq, polyE_eq, parE_perm px py h, any_perm _ h]

theorem edgesG_length (l : List (Int × Int)) : ∀ a, (edgesG a l).length = l.length := by
  induction l with
  | nil => intro a; rfl
  | cons b r ih => intro a; simp [edgesG, ih]
theorem edgesG_at (l : List (Int × Int)) : ∀ (a : Int × Int) (i : Nat), i < l.length → (edgesG a l)[i]? = some ((a :: l).getD i (0, 0), l.getD i (0, 0)) := by
  induction l with
  | nil => intro a i hi; simp at hi
  | cons b r ih =>
    intro a i hi
    cases i with
    | zero => rfl
    | succ i =>
      simp only [edgesG, List.getElem?_cons_succ]
      rw [ih b i (by simpa using hi)]
      simp
theorem getD_eq_getElem?' (l : List (Int × Int)) (i : Nat) : l.getD i (0, 0) = l[i]?.getD (0, 0) := List.getD_eq_getElem?_getD ..

theorem edgesR_eq (p : Int × Int) (l : List (Int × Int)) : edgesR (p :: l) = edgesG p l ++ [((p :: l).getLastD (0, 0), p)] := by
  apply List.ext_getElem?
  intro i
  have hlen : (p :: l).length = l.length + 1 := rfl
  by_cases hi : i < l.length
  · rw [List.getElem?_append_left (by rw [edgesG_length]; exact hi), edgesG_at l p i hi]
    rw [edgesR_at (p :: l) i ((p :: l).getD i (0, 0)) (l.getD i (0, 0))]
    · rw [List.getD_eq_getElem?_getD, List.getElem?_eq_getElem (by rw [hlen]; omega)]; rfl
    · rw [hlen, Nat.mod_eq_of_lt (by omega), List.getElem?_cons_succ, List.getD_eq_getElem?_getD, List.getElem?_eq_getElem hi]; rfl
  · by_cases hi2 : i = l.length
    · subst hi2
      rw [List.getElem?_append_right (by rw [edgesG_length]; omega), edgesG_length, Nat.sub_self]
      rw [edgesR_at (p :: l) l.length ((p :: l).getLastD (0, 0)) p]
      · rfl
      · rw [List.getLastD_eq_getLast?, List.getLast?_eq_getElem?, hlen, Nat.add_sub_cancel, List.getElem?_eq_getElem (by rw [hlen]; omega)]; rfl
      · rw [hlen, Nat.mod_self]; rfl
    · rw [List.getElem?_eq_none (by rw [edgesR_length, hlen]; omega), List.getElem?_eq_none (by rw [List.length_append, edgesG_length]; simp; omega)]

theorem poly_same (x y : Int) (ps : List (Int × Int)) (h : 1 ≤ ps.length) : polyFrom (lastP ps).1 (lastP ps).2 false x y ps = polyE x y false (edgesR ps) := by
  cases ps with
  | nil => simp at h
  | cons p l =>
    rw [polyFrom_eq, edgesR_eq]
    apply polyE_perm
    show (((lastP (p :: l)), p) :: edgesG p l).Perm _
    exact (List.perm_append_comm (l₁ := [((lastP (p :: l)), p)]) (l₂ := edgesG p l))

theorem two_of {ps : List (Int × Int)} (h : ps.length = 2) : ∃ a b c d, ps = [(a, b), (c, d)] := by
  match ps, h with
  | [(a, b), (c, d)], _ => exact ⟨a, b, c, d, rfl⟩

theorem inside_same (k : Int) (ps : List (Int × Int)) (r x y : Int) : insideB k ps r x y = rinsideB k ps r x y := by
  unfold insideB rinsideB
  cases hv : validB k ps r
  · rfl
  · obtain ⟨hf, hp⟩ := validB_form hv
    congr 2
    rcases formB_cases hf with ⟨rfl, h2, rfl⟩ | ⟨rfl, h2, _⟩ | ⟨rfl, h2, _⟩
    · obtain ⟨a, b, c, d, rfl⟩ := two_of (ps := ps) (by omega)
      have h1 := pointB_true (hp (a, b) (by simp))
      have h2 := pointB_true (hp (c, d) (by simp))
      simp only at h1 h2
      show boxB (cornersOf (bbTo a b [(a, b), (c, d)]) 0) x y = (betwB x a c && betwB y b d)
      have hc : cornersOf (bbTo a b [(a, b), (c, d)]) 0 = (min a c, min b d, max a c, max b d) := by
        simp only [cornersOf, bbTo, bbStep, List.foldl, Prod.mk.injEq]
        omega
      rw [hc]
      simp only [boxB, betwB, Bool.and_assoc]
    · rfl
    · exact poly_same x y ps (by omega)

end Go.Proofs.Ytefolbfopjfbcaa
