/- The order of values in plain words. -/
import Derived.Test.YtckeccfbadlhhaaDoorValPure
import Derived.Lib.Bytealg
import Derived.Lib.Small
namespace Go.Proofs.YtckeccfbadlhhaaDoor

abbrev cmpI (x y : Int) : Int := Lib.compareInt x y
def cmpB (a b : ByteArray) : Int := Lib.compareBytes a.data.toList b.data.toList
mutual
def cmpV : Val → Val → Int
  | .mk k n t l d, y =>
    if k ≠ y.k then cmpI k y.k
    else if k = 3 ∨ k = 9 ∨ k = 10 then cmpI n y.n
    else if k = 4 ∨ k = 7 ∨ k = 8 then cmpB t y.t
    else if k = 6 then cmpL l y.l
    else if k = 5 then cmpD d y.d
    else 0
def cmpL : List Val → List Val → Int
  | [], m => if m.isEmpty then 0 else -1
  | _ :: _, [] => 1
  | x :: r, y :: s => if cmpV x y ≠ 0 then cmpV x y else cmpL r s
def cmpD : List Fld → List Fld → Int
  | [], m => if m.isEmpty then 0 else -1
  | _ :: _, [] => 1
  | x :: r, y :: s => if cmpF x y ≠ 0 then cmpF x y else cmpD r s
def cmpF : Fld → Fld → Int
  | .mk s v, g => if cmpB s g.s ≠ 0 then cmpB s g.s else cmpV v g.v
end
theorem cmpF_eq (f g : Fld) : cmpF f g = if cmpB f.s g.s ≠ 0 then cmpB f.s g.s else cmpV f.v g.v := by cases f; rw [cmpF]; rfl
theorem cmpV_eq (x y : Val) : cmpV x y = if x.k ≠ y.k then cmpI x.k y.k else if x.k = 3 ∨ x.k = 9 ∨ x.k = 10 then cmpI x.n y.n else if x.k = 4 ∨ x.k = 7 ∨ x.k = 8 then cmpB x.t y.t
    else if x.k = 6 then cmpL x.l y.l else if x.k = 5 then cmpD x.d y.d else 0 := by
  cases x
  rw [cmpV]
  rfl
theorem cmpV_kind {x y : Val} (h : x.k ≠ y.k) : cmpV x y = cmpI x.k y.k := by rw [cmpV_eq, if_pos h]
theorem cmpV_int {x y : Val} (h : x.k = y.k) (h' : x.k = 3 ∨ x.k = 9 ∨ x.k = 10) : cmpV x y = cmpI x.n y.n := by rw [cmpV_eq, if_neg (by simpa using h), if_pos h']
theorem cmpV_text {x y : Val} (h : x.k = y.k) (h' : x.k = 4 ∨ x.k = 7 ∨ x.k = 8) : cmpV x y = cmpB x.t y.t := by rw [cmpV_eq, if_neg (by simpa using h), if_neg (by omega), if_pos h']
theorem cmpV_list {x y : Val} (h : x.k = y.k) (h' : x.k = 6) : cmpV x y = cmpL x.l y.l := by rw [cmpV_eq, if_neg (by simpa using h), if_neg (by omega), if_neg (by omega), if_pos h']
theorem cmpV_doc {x y : Val} (h : x.k = y.k) (h' : x.k = 5) : cmpV x y = cmpD x.d y.d := by rw [cmpV_eq, if_neg (by simpa using h), if_neg (by omega), if_neg (by omega), if_neg (by omega), if_pos h']
theorem cmpV_other {x y : Val} (h : x.k = y.k) (h3 : x.k ≠ 3) (h9 : x.k ≠ 9) (h10 : x.k ≠ 10) (h4 : x.k ≠ 4) (h7 : x.k ≠ 7) (h8 : x.k ≠ 8) (h6 : x.k ≠ 6) (h5 : x.k ≠ 5) : cmpV x y = 0 := by
  rw [cmpV_eq, if_neg (by simpa using h), if_neg (by omega), if_neg (by omega), if_neg h6, if_neg h5]
theorem cmpI_nat (a b : Nat) : cmpI (a : Int) (b : Int) = if a < b then -1 else if b < a then 1 else 0 := by
  unfold cmpI Lib.compareInt
  rcases Nat.lt_trichotomy a b with h | h | h
  · rw [if_pos (by omega), if_pos h]
  · rw [if_neg (by omega), if_neg (by omega), if_neg (by omega), if_neg (by omega)]
  · rw [if_neg (by omega), if_pos (by omega), if_neg (by omega), if_pos h]
theorem cmpL_end {l m : List Val} {i : Nat} (h1 : i ≤ l.length) (h2 : i ≤ m.length) (h : l.length ≤ i ∨ m.length ≤ i) : cmpL (l.drop i) (m.drop i) = cmpI (l.length : Int) (m.length : Int) := by
  rw [cmpI_nat]
  by_cases hl : l.length ≤ i
  · rw [List.drop_of_length_le hl, cmpL]
    by_cases hm : m.length ≤ i
    · rw [List.drop_of_length_le hm, List.isEmpty_nil, if_pos (Eq.refl true), if_neg (by omega), if_neg (by omega)]
    · rw [if_neg (by simp; omega), if_pos (by omega)]
  · have hm : m.length ≤ i := by omega
    rw [List.drop_of_length_le hm, List.drop_eq_getElem_cons (by omega : i < l.length), cmpL, if_neg (by omega), if_pos (by omega)]
theorem cmpL_at {l m : List Val} {i : Nat} {x y : Val} (hx : l[i]? = some x) (hy : m[i]? = some y) : cmpL (l.drop i) (m.drop i) = if cmpV x y ≠ 0 then cmpV x y else cmpL (l.drop (i + 1)) (m.drop (i + 1)) := by
  rw [drop_of hx, drop_of hy, cmpL]
theorem cmpD_end {l m : List Fld} {i : Nat} (h1 : i ≤ l.length) (h2 : i ≤ m.length) (h : l.length ≤ i ∨ m.length ≤ i) : cmpD (l.drop i) (m.drop i) = cmpI (l.length : Int) (m.length : Int) := by
  rw [cmpI_nat]
  by_cases hl : l.length ≤ i
  · rw [List.drop_of_length_le hl, cmpD]
    by_cases hm : m.length ≤ i
    · rw [List.drop_of_length_le hm, List.isEmpty_nil, if_pos (Eq.refl true), if_neg (by omega), if_neg (by omega)]
    · rw [if_neg (by simp; omega), if_pos (by omega)]
  · have hm : m.length ≤ i := by omega
    rw [List.drop_of_length_le hm, List.drop_eq_getElem_cons (by omega : i < l.length), cmpD, if_neg (by omega), if_pos (by omega)]
theorem cmpD_at {l m : List Fld} {i : Nat} {x y : Fld} (hx : l[i]? = some x) (hy : m[i]? = some y) : cmpD (l.drop i) (m.drop i) = if cmpB x.s y.s ≠ 0 then cmpB x.s y.s else if cmpV x.v y.v ≠ 0 then cmpV x.v y.v else cmpD (l.drop (i + 1)) (m.drop (i + 1)) := by
  rw [drop_of hx, drop_of hy, cmpD, cmpF_eq]
  by_cases hb : cmpB x.s y.s = 0
  · simp [hb]
  · simp [hb]
/-- the ways of a comparison of equal kinds -/
theorem kind_ways (k : Int) : (k = 3 ∨ k = 9 ∨ k = 10) ∨ (k = 4 ∨ k = 7 ∨ k = 8) ∨ k = 6 ∨ k = 5 ∨ (k ≠ 3 ∧ k ≠ 9 ∧ k ≠ 10 ∧ k ≠ 4 ∧ k ≠ 7 ∧ k ≠ 8 ∧ k ≠ 6 ∧ k ≠ 5) := by omega

end Go.Proofs.YtckeccfbadlhhaaDoor
