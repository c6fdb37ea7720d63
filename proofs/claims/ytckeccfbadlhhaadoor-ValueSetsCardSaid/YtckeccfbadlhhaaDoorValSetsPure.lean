/- Plain law of Get, Set and Remove. -/
import Derived.Test.YtckeccfbadlhhaaDoorValRemove
namespace Go.Proofs.YtckeccfbadlhhaaDoor

/-- a field has a name -/
def isN (name : ByteArray) (f : Fld) : Bool := f.s.toList == name.toList
/-- how many fields have a name -/
def cntN (name : ByteArray) (d : List Fld) : Nat := d.countP (isN name)
/-- the value of the first field with a name -/
def lookD (name : ByteArray) : List Fld → Option Val
  | [] => none
  | f :: r => if isN name f then some f.v else lookD name r
theorem findFrom_none {name : ByteArray} : ∀ {d : List Fld} (i : Nat), cntN name d = 0 → findFrom name d i = -1 := by
  intro d
  induction d with
  | nil => intro i _; rfl
  | cons f r ih =>
    intro i h
    unfold cntN at h
    rw [List.countP_cons] at h
    cases hf : isN name f
    · rw [findFrom, if_neg (by unfold isN at hf; simp [hf])]
      exact ih (i + 1) (by unfold cntN; rw [hf] at h; simpa using h)
    · rw [hf] at h; simp at h
theorem findFrom_some {name : ByteArray} : ∀ {d : List Fld} (i : Nat), 0 < cntN name d → ∃ (a : List Fld) (f : Fld) (b : List Fld), d = a ++ f :: b ∧ cntN name a = 0 ∧ isN name f = true ∧ findFrom name d i = ((i + a.length : Nat) : Int) := by
  intro d
  induction d with
  | nil => intro i h; simp [cntN] at h
  | cons f r ih =>
    intro i h
    cases hf : isN name f
    · unfold cntN at h
      rw [List.countP_cons, hf] at h
      obtain ⟨a, g, b, h1, h2, h3, h4⟩ := ih (i + 1) (by unfold cntN; simpa using h)
      refine ⟨f :: a, g, b, by rw [h1]; rfl, ?_, h3, ?_⟩
      · unfold cntN at h2 ⊢
        rw [List.countP_cons, hf, h2]; rfl
      · rw [findFrom, if_neg (by unfold isN at hf; simp [hf]), h4]
        simp; omega
    · refine ⟨[], f, r, rfl, rfl, hf, ?_⟩
      rw [findFrom, if_pos (by unfold isN at hf; simpa using hf)]
      simp
theorem lookD_skip {name : ByteArray} {a b : List Fld} (h : cntN name a = 0) : lookD name (a ++ b) = lookD name b := by
  induction a with
  | nil => rfl
  | cons f r ih =>
    unfold cntN at h
    rw [List.countP_cons] at h
    cases hf : isN name f
    · rw [List.cons_append, lookD, hf]
      exact ih (by unfold cntN; rw [hf] at h; simpa using h)
    · rw [hf] at h; simp at h
theorem lookD_none {name : ByteArray} {d : List Fld} (h : cntN name d = 0) : lookD name d = none := by
  have := lookD_skip (b := []) h
  rw [List.append_nil] at this
  rw [this]; rfl
theorem lookD_isSome {name : ByteArray} {d : List Fld} : (lookD name d).isSome = decide (0 < cntN name d) := by
  rcases Nat.eq_zero_or_pos (cntN name d) with h | h
  · rw [lookD_none h, h]; rfl
  · obtain ⟨a, f, b, rfl, h1, h2, _⟩ := findFrom_some 0 h
    rw [lookD_skip h1, lookD, h2, decide_eq_true h]; rfl
theorem getV_look {x : Val} {name : ByteArray} (hk : x.k = 5) : getV x name = lookD name x.d := by
  have hI : findI x name = findFrom name x.d 0 := by unfold findI; rw [hk]; rfl
  rcases Nat.eq_zero_or_pos (cntN name x.d) with h | h
  · rw [lookD_none h, getV_none (by rw [hI]; exact findFrom_none 0 h)]
  · obtain ⟨a, f, b, h0, h1, h2, h3⟩ := findFrom_some 0 h
    rw [getV_some (j := a.length) (f := f) (by rw [hI, h3]; simp) (by rw [h0, List.getElem?_append_right (Nat.le_refl _), Nat.sub_self]; rfl), h0, lookD_skip h1, lookD, h2]
    rfl
theorem putD_mid (a : List Fld) (f : Fld) (b : List Fld) (v : Val) : putD (a ++ f :: b) a.length v = a ++ .mk f.s v :: b := by
  apply List.ext_getElem?
  intro i
  rw [putD_get]
  rcases Nat.lt_trichotomy i a.length with h | h | h
  · rw [List.getElem?_append_left h, List.getElem?_append_left h]
    cases a[i]? with
    | none => rfl
    | some g => simp only [Option.map_some]; rw [if_neg (by omega)]
  · subst h
    rw [List.getElem?_append_right (Nat.le_refl _), List.getElem?_append_right (Nat.le_refl _), Nat.sub_self]
    simp
  · rw [List.getElem?_append_right (by omega), List.getElem?_append_right (by omega)]
    obtain ⟨k, hk⟩ : ∃ k, i - a.length = k + 1 := ⟨i - a.length - 1, by omega⟩
    rw [hk, List.getElem?_cons_succ, List.getElem?_cons_succ]
    cases b[k]? with
    | none => rfl
    | some g => simp only [Option.map_some]; rw [if_neg (by omega)]
theorem erase_mid (a : List Fld) (f : Fld) (b : List Fld) : (a ++ f :: b).eraseIdx a.length = a ++ b := by
  rw [List.eraseIdx_append_of_length_le (Nat.le_refl _), Nat.sub_self]
  rfl
/-- Set by the fields alone -/
theorem setW_d {x v : Val} {name : ByteArray} (hk : x.k = 5) :
    (setW x name v).k = 5 ∧ ((cntN name x.d = 0 ∧ (setW x name v).d = x.d ++ [.mk name v]) ∨ (∃ a f b, x.d = a ++ f :: b ∧ cntN name a = 0 ∧ isN name f = true ∧ (setW x name v).d = a ++ .mk f.s v :: b)) := by
  have hI : findI x name = findFrom name x.d 0 := by unfold findI; rw [hk]; rfl
  unfold setW
  rw [if_pos hk]
  rcases Nat.eq_zero_or_pos (cntN name x.d) with h | h
  · rw [if_pos (by rw [hI, findFrom_none 0 h]; decide)]
    exact ⟨hk, .inl ⟨h, rfl⟩⟩
  · obtain ⟨a, f, b, h0, h1, h2, h3⟩ := findFrom_some 0 h
    rw [Nat.zero_add] at h3
    rw [if_neg (by rw [hI, h3]; omega)]
    refine ⟨hk, .inr ⟨a, f, b, h0, h1, h2, ?_⟩⟩
    show putD x.d (findI x name).toNat v = _
    rw [hI, h3, Int.toNat_natCast, h0, putD_mid]
theorem isN_self (name : ByteArray) (v : Val) : isN name (.mk name v) = true := by unfold isN Fld.s; simp
theorem isN_s {name : ByteArray} {f : Fld} (v : Val) : isN name (.mk f.s v) = isN name f := rfl
theorem isN_other {name other : ByteArray} (h : (name.toList == other.toList) = false) {f : Fld} (hf : isN name f = true) : isN other f = false := by
  unfold isN at hf ⊢
  have : f.s.toList = name.toList := by simpa using hf
  rw [this]
  exact h
theorem get_set {x v : Val} {name : ByteArray} (hk : x.k = 5) : getV (setW x name v) name = some v := by
  obtain ⟨h5, h⟩ := setW_d (v := v) (name := name) hk
  rw [getV_look h5]
  rcases h with ⟨h1, h2⟩ | ⟨a, f, b, h0, h1, h2, h3⟩
  · rw [h2, lookD_skip h1, lookD, isN_self]; rfl
  · rw [h3, lookD_skip h1, lookD, isN_s, h2]; rfl
theorem lookD_app {name : ByteArray} {b c : List Fld} (h : lookD name b = lookD name c) : ∀ a : List Fld, lookD name (a ++ b) = lookD name (a ++ c) := by
  intro a
  induction a with
  | nil => exact h
  | cons f r ih => rw [List.cons_append, List.cons_append, lookD, lookD, ih]
theorem get_set_other {x v : Val} {name other : ByteArray} (hk : x.k = 5) (hne : (name.toList == other.toList) = false) : getV (setW x name v) other = getV x other := by
  obtain ⟨h5, h⟩ := setW_d (v := v) (name := name) hk
  rw [getV_look h5, getV_look hk]
  rcases h with ⟨h1, h2⟩ | ⟨a, f, b, h0, h1, h2, h3⟩
  · rw [h2]
    conv => rhs; rw [← List.append_nil x.d]
    refine lookD_app ?_ _
    simp [lookD, isN_other hne (isN_self name v)]
  · rw [h3, h0]
    refine lookD_app ?_ _
    rw [lookD, lookD, isN_s, isN_other hne h2]; rfl
theorem len_set {x v : Val} {name : ByteArray} (hk : x.k = 5) : (setW x name v).d.length = x.d.length + (if cntN name x.d = 0 then 1 else 0) := by
  obtain ⟨h5, h⟩ := setW_d (v := v) (name := name) hk
  rcases h with ⟨h1, h2⟩ | ⟨a, f, b, h0, h1, h2, h3⟩
  · rw [h2, if_pos h1]; simp
  · have hc : cntN name x.d ≠ 0 := by
      rw [h0]; unfold cntN
      rw [List.countP_append, List.countP_cons, h2]
      simp
    rw [h3, if_neg hc, h0]; simp
/-- Remove by the fields alone -/
theorem remW_d {x : Val} {name : ByteArray} (hk : x.k = 5) : (remW x name).k = 5 ∧ cntN name (remW x name).d = cntN name x.d - 1 ∧ (remW x name).d.length = x.d.length - min (cntN name x.d) 1 := by
  have hI : findI x name = findFrom name x.d 0 := by unfold findI; rw [hk]; rfl
  unfold remW
  rcases Nat.eq_zero_or_pos (cntN name x.d) with h | h
  · rw [if_pos (by rw [hI, findFrom_none 0 h]; decide)]
    exact ⟨hk, by omega, by omega⟩
  · obtain ⟨a, f, b, h0, h1, h2, h3⟩ := findFrom_some 0 h
    rw [Nat.zero_add] at h3
    rw [if_neg (by rw [hI, h3]; omega)]
    have e : (Val.mk x.k x.n x.t x.l (x.d.eraseIdx (findI x name).toNat)).d = a ++ b := by
      show x.d.eraseIdx (findI x name).toNat = _
      rw [hI, h3, Int.toNat_natCast, h0, erase_mid]
    refine ⟨hk, ?_, ?_⟩
    · rw [e, h0]; unfold cntN
      rw [List.countP_append, List.countP_append, List.countP_cons, h2]
      simp
    · rw [e, Nat.min_eq_right (by omega), h0]; simp
theorem get_rem {x : Val} {name : ByteArray} (hk : x.k = 5) : (getV (remW x name) name).isSome = decide (1 < cntN name x.d) := by
  obtain ⟨h1, h2, _⟩ := remW_d (name := name) hk
  rw [getV_look h1, lookD_isSome, h2]
  congr 1
  apply propext
  omega
theorem cntN_snoc {name : ByteArray} {d : List Fld} {i : Nat} {f : Fld} (h : d[i]? = some f) : cntN name (d.take (i + 1)) = cntN name (d.take i) + (if isN name f then 1 else 0) := by
  unfold cntN
  rw [take_snoc' h, List.countP_append, List.countP_singleton]
theorem cntN_le (name : ByteArray) (d : List Fld) : cntN name d ≤ d.length := List.countP_le_length

end Go.Proofs.YtckeccfbadlhhaaDoor
