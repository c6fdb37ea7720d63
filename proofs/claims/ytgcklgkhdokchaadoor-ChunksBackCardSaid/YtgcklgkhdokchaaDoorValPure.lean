/- Values in plain words: parts, size, depth. -/
import Derived.Test.YtgcklgkhdokchaaDoorVal
namespace Go.Proofs.YtgcklgkhdokchaaDoor

/-- the parts of a value -/
def Val.parts (x : Val) : List Val := if x.k = 6 then x.l else if x.k = 5 then x.d.map Fld.v else []

mutual
def Val.size : Val → Nat
  | .mk k _ _ l d => 1 + if k = 6 then sizeL l else if k = 5 then sizeD d else 0
def sizeL : List Val → Nat
  | [] => 0
  | x :: r => x.size + sizeL r
def sizeD : List Fld → Nat
  | [] => 0
  | f :: r => sizeF f + sizeD r
def sizeF : Fld → Nat
  | .mk _ v => v.size
end
mutual
def Val.height : Val → Nat
  | .mk k _ _ l d => 1 + if k = 6 then heightL l else if k = 5 then heightD d else 0
def heightL : List Val → Nat
  | [] => 0
  | x :: r => max x.height (heightL r)
def heightD : List Fld → Nat
  | [] => 0
  | f :: r => max (heightF f) (heightD r)
def heightF : Fld → Nat
  | .mk _ v => v.height
end
theorem sizeF_eq (f : Fld) : sizeF f = f.v.size := by cases f; simp [sizeF, Fld.v]
theorem heightF_eq (f : Fld) : heightF f = f.v.height := by cases f; simp [heightF, Fld.v]
theorem sizeD_eq (d : List Fld) : sizeD d = sizeL (d.map Fld.v) := by
  induction d with
  | nil => simp [sizeD, sizeL]
  | cons f r ih => simp [sizeD, sizeL, ih, sizeF_eq]
theorem heightD_eq (d : List Fld) : heightD d = heightL (d.map Fld.v) := by
  induction d with
  | nil => simp [heightD, heightL]
  | cons f r ih => simp [heightD, heightL, ih, heightF_eq]
theorem size_parts (x : Val) : x.size = 1 + sizeL x.parts := by
  cases x with
  | mk k n t l d =>
    show Val.size (.mk k n t l d) = 1 + sizeL (if k = 6 then l else if k = 5 then d.map Fld.v else [])
    rw [Val.size]
    by_cases h6 : k = 6
    · rw [if_pos h6, if_pos h6]
    · rw [if_neg h6, if_neg h6]
      by_cases h5 : k = 5
      · rw [if_pos h5, if_pos h5, sizeD_eq]
      · rw [if_neg h5, if_neg h5, sizeL]
theorem height_parts (x : Val) : x.height = 1 + heightL x.parts := by
  cases x with
  | mk k n t l d =>
    show Val.height (.mk k n t l d) = 1 + heightL (if k = 6 then l else if k = 5 then d.map Fld.v else [])
    rw [Val.height]
    by_cases h6 : k = 6
    · rw [if_pos h6, if_pos h6]
    · rw [if_neg h6, if_neg h6]
      by_cases h5 : k = 5
      · rw [if_pos h5, if_pos h5, heightD_eq]
      · rw [if_neg h5, if_neg h5, heightL]
theorem size_pos (x : Val) : 1 ≤ x.size := by rw [size_parts]; omega
theorem height_pos (x : Val) : 1 ≤ x.height := by rw [height_parts]; omega
theorem sizeL_append (l m : List Val) : sizeL (l ++ m) = sizeL l + sizeL m := by
  induction l with
  | nil => simp [sizeL]
  | cons x r ih => simp [sizeL, ih]; omega
theorem heightL_append (l m : List Val) : heightL (l ++ m) = max (heightL l) (heightL m) := by
  induction l with
  | nil => simp [heightL]
  | cons x r ih => simp only [List.cons_append, heightL, ih]; omega
theorem take_snoc' {α : Type} {l : List α} {i : Nat} {y : α} (h : l[i]? = some y) : l.take (i + 1) = l.take i ++ [y] := by
  rw [List.take_add_one, h]; rfl
theorem sizeL_snoc {l : List Val} {i : Nat} {y : Val} (h : l[i]? = some y) : sizeL (l.take (i + 1)) = sizeL (l.take i) + y.size := by
  rw [take_snoc' h, sizeL_append]; simp [sizeL]
theorem heightL_snoc {l : List Val} {i : Nat} {y : Val} (h : l[i]? = some y) : heightL (l.take (i + 1)) = max (heightL (l.take i)) y.height := by
  rw [take_snoc' h, heightL_append]; simp [heightL]
theorem sizeL_take (l : List Val) (i : Nat) : sizeL (l.take i) ≤ sizeL l := by
  conv => rhs; rw [← List.take_append_drop i l, sizeL_append]
  omega
theorem heightL_take (l : List Val) (i : Nat) : heightL (l.take i) ≤ heightL l := by
  conv => rhs; rw [← List.take_append_drop i l, heightL_append]
  omega
theorem sizeL_mem {l : List Val} {y : Val} (h : y ∈ l) : y.size ≤ sizeL l := by
  induction l with
  | nil => simp at h
  | cons x r ih =>
    simp only [sizeL]
    rcases List.mem_cons.1 h with rfl | h
    · omega
    · have := ih h; omega
theorem heightL_mem {l : List Val} {y : Val} (h : y ∈ l) : y.height ≤ heightL l := by
  induction l with
  | nil => simp at h
  | cons x r ih =>
    simp only [heightL]
    rcases List.mem_cons.1 h with rfl | h
    · omega
    · have := ih h; omega
theorem parts_size {x y : Val} (h : y ∈ x.parts) : y.size < x.size := by
  have := sizeL_mem h
  rw [size_parts x]
  omega
theorem parts_height {x y : Val} (h : y ∈ x.parts) : y.height < x.height := by
  have := heightL_mem h
  rw [height_parts x]
  omega
/-- the number of values, at most a number -/
def nodesI (x : Val) (most : Int) : Int := min (x.size : Int) most
/-- the number of levels, at most a number -/
def depthI (x : Val) (most : Int) : Int := min (x.height : Int) most

end Go.Proofs.YtgcklgkhdokchaaDoor
