/- Plain: turning, reversing, and the polygon of a box. -/
import Derived.Test.YtefolbfopjfbcaaGeoEq
namespace Go.Proofs.Ytefolbfopjfbcaa

theorem edgeB_swap (ax ay bx by' px py : Int) : edgeB bx by' ax ay px py = edgeB ax ay bx by' px py := by
  rw [edgeB_eq, edgeB_eq, turnI_swap]
  have h1 : betwB px bx ax = betwB px ax bx := by simp only [betwB, Int.min_comm bx, Int.max_comm bx]
  have h2 : betwB py by' ay = betwB py ay by' := by simp only [betwB, Int.min_comm by', Int.max_comm by']
  rw [h1, h2]
  congr 1
  rw [Bool.eq_iff_iff]
  simp
theorem crossB_swap (ax ay bx by' px py : Int) : crossB bx by' ax ay px py = crossB ax ay bx by' px py := by
  rw [Bool.eq_iff_iff, crossB_iff, crossB_iff, turnI_swap]
  omega
def swapE (e : Edge) : Edge := (e.2, e.1)
theorem polyE_swap (px py : Int) (E : List Edge) (odd : Bool) : polyE px py odd (E.map swapE) = polyE px py odd E := by
  rw [polyE_eq, polyE_eq]
  have h1 : (E.map swapE).any (edgeE px py) = E.any (edgeE px py) := by
    rw [List.any_map]
    congr 1
    funext e
    exact edgeB_swap ..
  have h2 : parE px py (E.map swapE) = parE px py E := by
    induction E with
    | nil => rfl
    | cons e r ih =>
      have h3 : crossE px py (swapE e) = crossE px py e := crossB_swap ..
      simp only [List.map_cons, parE, h3, ih (by rw [List.any_map]; congr 1; funext e; exact edgeB_swap ..)]
  rw [h1, h2]

/-- the list turned by T and reversed -/
def turnIx (n T i : Nat) : Nat := (T + n - 1 - i + n * 100) % n
def turned (ps : List (Int × Int)) (T : Nat) : List (Int × Int) := (List.range ps.length).map fun i => ps.getD (turnIx ps.length T i) (0, 0)
theorem turned_length (ps : List (Int × Int)) (T : Nat) : (turned ps T).length = ps.length := by simp [turned]
theorem turned_at (ps : List (Int × Int)) (T i : Nat) (hi : i < ps.length) : (turned ps T)[i]? = some (ps.getD (turnIx ps.length T i) (0, 0)) := by
  simp [turned, List.getElem?_range hi]
theorem turnIx_lt (n T i : Nat) (h : 0 < n) : turnIx n T i < n := Nat.mod_lt _ h
theorem turned_mem (ps : List (Int × Int)) (T : Nat) (p : Int × Int) (h : p ∈ turned ps T) : p ∈ ps := by
  simp only [turned, List.mem_map, List.mem_range] at h
  obtain ⟨i, hi, rfl⟩ := h
  have hlt := turnIx_lt ps.length T i (by omega)
  rw [List.getD_eq_getElem?_getD, List.getElem?_eq_getElem hlt]
  exact List.getElem_mem ..
theorem turned_valid (k : Int) (ps : List (Int × Int)) (r : Int) (T : Nat) (h : validB k ps r = true) : validB k (turned ps T) r = true := by
  obtain ⟨h1, h2⟩ := validB_form h
  refine valid_all k _ r (by rw [turned_length]; exact h1) (fun i x y hi => ?_)
  exact h2 (x, y) (turned_mem ps T _ (List.mem_of_getElem? hi))

/-- stepping down around a circle of n places -/
def downIx (n C i : Nat) : Nat := (C - i) % n
theorem downIx_eq (n C i : Nat) (hi : i < n) (hC : n ≤ C) : downIx n C i = if i ≤ C % n then C % n - i else n + C % n - i := by
  unfold downIx
  have hc : C % n < n := Nat.mod_lt _ (by omega)
  have hq := Nat.div_add_mod C n
  have hq1 : 1 ≤ C / n := Nat.div_pos hC (by omega)
  split
  · rename_i h
    have : C - i = n * (C / n) + (C % n - i) := by omega
    rw [this, Nat.mul_add_mod]
    exact Nat.mod_eq_of_lt (by omega)
  · rename_i h
    obtain ⟨q, hq'⟩ : ∃ q, C / n = q + 1 := ⟨C / n - 1, by omega⟩
    rw [hq', Nat.mul_add, Nat.mul_one] at hq
    have : C - i = n * q + (n + C % n - i) := by omega
    rw [this, Nat.mul_add_mod]
    exact Nat.mod_eq_of_lt (by omega)
theorem down_perm (n C : Nat) (hC : n ≤ C) : ((List.range n).map (downIx n C)).Perm (List.range n) := by
  rcases Nat.eq_zero_or_pos n with rfl | hn
  · exact List.Perm.refl _
  have hc : C % n < n := Nat.mod_lt _ hn
  have e : (List.range n).map (downIx n C) = (List.range (C % n + 1)).reverse ++ ((List.range (n - 1 - C % n)).map (· + (C % n + 1))).reverse := by
    apply List.ext_getElem?
    intro i
    by_cases hi : i < n
    · rw [List.getElem?_map, List.getElem?_range hi, Option.map_some, downIx_eq n C i hi hC]
      by_cases h1 : i ≤ C % n
      · rw [List.getElem?_append_left (by simp; omega), List.getElem?_reverse (by simp; omega), List.getElem?_range (by simp; omega), if_pos h1]
        simp
      · rw [List.getElem?_append_right (by simp; omega), List.getElem?_reverse (by simp; omega), List.getElem?_map, List.getElem?_range (by simp; omega), if_neg h1]
        simp
        omega
    · rw [List.getElem?_eq_none (by simp; omega), List.getElem?_eq_none (by simp; omega)]
  rw [e]
  refine ((List.reverse_perm _).append (List.reverse_perm _)).trans ?_
  have e2 : List.range n = List.range (C % n + 1) ++ (List.range (n - 1 - C % n)).map (· + (C % n + 1)) := by
    have := List.range_add (n := C % n + 1) (m := n - 1 - C % n)
    rw [show C % n + 1 + (n - 1 - C % n) = n from by omega] at this
    rw [this]
    congr 1
    apply List.map_congr_left
    intro a _
    omega
  rw [e2]

theorem turnIx_down (n T i : Nat) (hi : i < n) : turnIx n T i = downIx n (T + n - 1 + n * 100) i := by
  unfold turnIx downIx
  congr 1
  omega
theorem edgesR_turned (ps : List (Int × Int)) (T : Nat) : (edgesR (turned ps T)).Perm ((edgesR ps).map swapE) := by
  rcases Nat.eq_zero_or_pos ps.length with h0 | hn
  · have : ps = [] := List.eq_nil_of_length_eq_zero h0
    subst this
    exact List.Perm.refl _
  have e : edgesR (turned ps T) = ((List.range ps.length).map (downIx ps.length (T + ps.length - 1 + ps.length * 100 + (ps.length - 1)))).map (fun j => swapE (ps.getD j (0, 0), ps.getD ((j + 1) % ps.length) (0, 0))) := by
    apply List.ext_getElem?
    intro i
    by_cases hi : i < ps.length
    · have hi1 : (i + 1) % ps.length < ps.length := Nat.mod_lt _ hn
      rw [edgesR_at (turned ps T) i _ _ (turned_at ps T i hi) (by rw [turned_length]; exact turned_at ps T _ hi1)]
      rw [List.getElem?_map, List.getElem?_map, List.getElem?_range hi]
      simp only [Option.map_some, swapE, Option.some.injEq, Prod.mk.injEq]
      rw [turnIx_down _ _ _ hi, turnIx_down _ _ _ hi1]
      generalize hC : T + ps.length - 1 + ps.length * 100 = C
      have hC1 : ps.length ≤ C := by omega
      generalize ps.length = n at *
      have hcn : C % n < n := Nat.mod_lt _ hn
      have d1 := downIx_eq n C i hi hC1
      have d2 := downIx_eq n C _ hi1 hC1
      have d3 := downIx_eq n (C + (n - 1)) i hi (by omega)
      have e4 : (C + (n - 1)) % n = if C % n = 0 then n - 1 else C % n - 1 := by
        rw [Nat.add_mod, Nat.mod_eq_of_lt (show n - 1 < n by omega)]
        split
        · rename_i h; rw [h, Nat.zero_add]; exact Nat.mod_eq_of_lt (by omega)
        · rw [show C % n + (n - 1) = n + (C % n - 1) from by omega, Nat.add_mod_left]; exact Nat.mod_eq_of_lt (by omega)
      have e5 : (i + 1) % n = if i + 1 = n then 0 else i + 1 := by
        split
        · rename_i h; rw [h, Nat.mod_self]
        · exact Nat.mod_eq_of_lt (by omega)
      have e6 : downIx n (C + (n - 1)) i = downIx n C ((i + 1) % n) := by
        rw [d2, d3, e4, e5]
        split <;> split <;> split <;> (try split) <;> omega
      have e7 : (downIx n C ((i + 1) % n) + 1) % n = downIx n C i := by
        rw [d1, d2, e5]
        have key : ∀ a, a < n → (a + 1) % n = if a + 1 = n then 0 else a + 1 := fun a ha => by
          split
          · rename_i h; rw [h, Nat.mod_self]
          · exact Nat.mod_eq_of_lt (by omega)
        rw [key _ (by split <;> split <;> omega)]
        split <;> split <;> (try split) <;> (try split) <;> (try split) <;> omega
      rw [e6, e7]
      exact ⟨rfl, rfl⟩
    · rw [List.getElem?_eq_none (by rw [edgesR_length, turned_length]; omega), List.getElem?_eq_none (by simp; omega)]
  rw [e]
  have h2 := (down_perm ps.length (T + ps.length - 1 + ps.length * 100 + (ps.length - 1)) (by omega)).map (fun j => swapE (ps.getD j (0, 0), ps.getD ((j + 1) % ps.length) (0, 0)))
  refine h2.trans ?_
  unfold edgesR
  rw [List.map_map]
  exact List.Perm.refl _

theorem inside_turned (k : Int) (ps : List (Int × Int)) (r x y : Int) (T : Nat) (h : validB k ps r = true) (h2 : k ≠ 2) : insideB k (turned ps T) r x y = insideB k ps r x y := by
  rw [inside_same, inside_same]
  unfold rinsideB
  rw [turned_valid k ps r T h, h]
  congr 2
  rcases formB_cases (validB_form h).1 with ⟨rfl, hl, rfl⟩ | ⟨rfl, hl, _⟩ | ⟨rfl, hl, _⟩
  · obtain ⟨a, b, c, d, rfl⟩ := two_of (ps := ps) (by omega)
    have e : turned [(a, b), (c, d)] T = [(a, b), (c, d)] ∨ turned [(a, b), (c, d)] T = [(c, d), (a, b)] := by
      rcases Nat.mod_two_eq_zero_or_one T with hT | hT
      · right
        have h0 : turnIx 2 T 0 = 1 := by unfold turnIx; omega
        have h1 : turnIx 2 T 1 = 0 := by unfold turnIx; omega
        simp [turned, List.range_succ, h0, h1]
      · left
        have h0 : turnIx 2 T 0 = 0 := by unfold turnIx; omega
        have h1 : turnIx 2 T 1 = 1 := by unfold turnIx; omega
        simp [turned, List.range_succ, h0, h1]
    rcases e with e | e
    · rw [e]
    · rw [e]
      show (betwB x c a && betwB y d b) = (betwB x a c && betwB y b d)
      simp only [betwB, Int.min_comm c, Int.max_comm c, Int.min_comm d, Int.max_comm d]
  · exact absurd rfl h2
  · show polyE x y false (edgesR (turned ps T)) = polyE x y false (edgesR ps)
    rw [polyE_perm x y (edgesR_turned ps T), polyE_swap]

theorem sign_pos (d e : Int) (hd : 0 < d) : 0 < -(d * e) ↔ e < 0 := by
  constructor
  · intro h
    rcases Int.lt_or_le e 0 with h1 | h1
    · exact h1
    · have := Int.mul_nonneg (Int.le_of_lt hd) h1
      omega
  · intro h
    have := Int.mul_neg_of_pos_of_neg hd h
    omega
theorem sign_neg (d e : Int) (hd : d < 0) : -(d * e) < 0 ↔ e < 0 := by
  have := sign_pos (-d) e (by omega)
  rw [Int.neg_mul] at this
  omega
theorem turn_vert (c ay by' px py : Int) : turnI c ay c by' px py = -((by' - ay) * (px - c)) := by
  simp only [turnI]
  grind
theorem cross_vert (c ay by' px py : Int) : crossB c ay c by' px py = true ↔ ((ay ≤ py ∧ py < by') ∨ (by' ≤ py ∧ py < ay)) ∧ px < c := by
  rw [crossB_iff, turn_vert]
  constructor
  · rintro (⟨h1, h2, h3⟩ | ⟨h1, h2, h3⟩)
    · have := (sign_pos _ _ (by omega)).1 h3
      omega
    · have := (sign_neg _ _ (by omega)).1 h3
      omega
  · rintro ⟨h1 | h1, h2⟩
    · exact .inl ⟨h1.1, h1.2, (sign_pos _ _ (by omega)).2 (by omega)⟩
    · exact .inr ⟨h1.1, h1.2, (sign_neg _ _ (by omega)).2 (by omega)⟩
theorem cross_hor (ax bx c px py : Int) : crossB ax c bx c px py = false := by simp [crossB]
theorem edge_vert (c ay by' px py : Int) : edgeB c ay c by' px py = true ↔ px = c ∧ min ay by' ≤ py ∧ py ≤ max ay by' := by
  rw [edgeB_eq, turn_vert]
  simp only [betwB, Bool.and_eq_true, decide_eq_true_eq, beq_iff_eq]
  constructor
  · rintro ⟨_, h1, h2⟩; omega
  · rintro ⟨rfl, h2⟩
    refine ⟨by simp, by omega, h2⟩
theorem edge_hor (ax bx c px py : Int) : edgeB ax c bx c px py = true ↔ py = c ∧ min ax bx ≤ px ∧ px ≤ max ax bx := by
  rw [edgeB_eq]
  simp only [betwB, Bool.and_eq_true, decide_eq_true_eq, beq_iff_eq, turnI]
  constructor
  · rintro ⟨_, h1, h2⟩; omega
  · rintro ⟨rfl, h2⟩
    refine ⟨by simp, h2, by omega⟩

theorem box_poly (ax ay bx by' x y : Int) (ha : pointB ax ay = true) (hb : pointB bx by' = true) :
    insideB 3 [(ax, ay), (bx, ay), (bx, by'), (ax, by')] 0 x y = insideB 1 [(ax, ay), (bx, by')] 0 x y := by
  rw [inside_same, inside_same]
  have ca : coordB ax = true ∧ coordB ay = true := by simpa [pointB] using ha
  have cb : coordB bx = true ∧ coordB by' = true := by simpa [pointB] using hb
  have v1 : validB 3 [(ax, ay), (bx, ay), (bx, by'), (ax, by')] 0 = true := by simp [validB, formB, pointB, ca, cb]
  have v2 : validB 1 [(ax, ay), (bx, by')] 0 = true := by simp [validB, formB, pointB, ca, cb]
  unfold rinsideB
  rw [v1, v2]
  congr 2
  show polyE x y false (edgesR [(ax, ay), (bx, ay), (bx, by'), (ax, by')]) = (betwB x ax bx && betwB y ay by')
  have e : edgesR [(ax, ay), (bx, ay), (bx, by'), (ax, by')] = [((ax, ay), (bx, ay)), ((bx, ay), (bx, by')), ((bx, by'), (ax, by')), ((ax, by'), (ax, ay))] := by simp [edgesR, List.range_succ]
  rw [e, polyE_eq]
  have c1 : crossE x y ((ax, ay), (bx, ay)) = false := cross_hor ..
  have c3 : crossE x y ((bx, by'), (ax, by')) = false := cross_hor ..
  have c2 := cross_vert bx ay by' x y
  have c4 := cross_vert ax by' ay x y
  have d1 := edge_hor ax bx ay x y
  have d2 := edge_vert bx ay by' x y
  have d3 := edge_hor bx ax by' x y
  have d4 := edge_vert ax by' ay x y
  simp only [List.any_cons, List.any_nil, parE, c1, c3]
  rw [Bool.eq_iff_iff]
  simp only [betwB, Bool.and_eq_true, decide_eq_true_eq, Bool.or_eq_true, Bool.or_false, Bool.false_xor, Bool.xor_false, edgeE, crossE]
  rw [d1, d2, d3, d4]
  have hx : (xor (crossB bx ay bx by' x y) (crossB ax by' ax ay x y)) = true ↔ ((((ay ≤ y ∧ y < by') ∨ (by' ≤ y ∧ y < ay)) ∧ x < bx) ↔ ¬ (((by' ≤ y ∧ y < ay) ∨ (ay ≤ y ∧ y < by')) ∧ x < ax)) := by
    rw [← c2, ← c4]
    cases crossB bx ay bx by' x y <;> cases crossB ax by' ax ay x y <;> simp
  rw [hx]
  omega

end Go.Proofs.Ytefolbfopjfbcaa
