/- Sound values in plain words. -/
import Derived.Test.YtgcklgkhdokchaaDoorValName
import Derived.Lib.ValidU
namespace Go.Proofs.YtgcklgkhdokchaaDoor

def utf8B (t : ByteArray) : Bool := Lib.validD t.data.toList
/-- the conditions of a value's kind -/
def HeadP (k n : Int) (t : ByteArray) (ln dn : Nat) : Prop :=
  (k = 3 ∨ k = 9 ∨ k = 10 ∨ n = 0) ∧ (k = 4 ∨ k = 7 ∨ k = 8 ∨ t.size = 0) ∧ (k = 6 ∨ ln = 0) ∧ (k = 5 ∨ dn = 0) ∧
  (k = 1 ∨ k = 2 ∨ k = 11 ∨ k = 3 ∨ (k = 9 ∧ (n = 0 ∨ n = 1)) ∨ (k = 10 ∧ 0 ≤ n) ∨ (k = 4 ∧ t.size ≤ 4096 ∧ utf8B t = true) ∨ (k = 7 ∧ t.size ≤ 4096) ∨ (k = 8 ∧ t.size = 12) ∨ k = 6 ∨ k = 5)
/-- distinct names -/
def NamesP (nm : ByteArray → Bool) (d : List Fld) : Prop := (∀ f ∈ d, nm f.s = true) ∧ (d.map Fld.s).Nodup
mutual
def SoundV (nm : ByteArray → Bool) : Val → Prop
  | .mk k n t l d => HeadP k n t l.length d.length ∧ SoundLs nm l ∧ SoundDs nm d ∧ NamesP nm d
def SoundLs (nm : ByteArray → Bool) : List Val → Prop
  | [] => True
  | x :: r => SoundV nm x ∧ SoundLs nm r
def SoundDs (nm : ByteArray → Bool) : List Fld → Prop
  | [] => True
  | f :: r => SoundF nm f ∧ SoundDs nm r
def SoundF (nm : ByteArray → Bool) : Fld → Prop
  | .mk _ v => SoundV nm v
end
theorem SoundLs_iff (nm : ByteArray → Bool) (l : List Val) : SoundLs nm l ↔ ∀ y ∈ l, SoundV nm y := by
  induction l with
  | nil => simp [SoundLs]
  | cons x r ih => simp [SoundLs, ih]
theorem SoundF_iff (nm : ByteArray → Bool) (f : Fld) : SoundF nm f ↔ SoundV nm f.v := by cases f; simp only [SoundF]; rfl
theorem SoundDs_iff (nm : ByteArray → Bool) (d : List Fld) : SoundDs nm d ↔ ∀ f ∈ d, SoundV nm f.v := by
  induction d with
  | nil => simp [SoundDs]
  | cons x r ih => simp [SoundDs, ih, SoundF_iff]
theorem SoundV_iff (nm : ByteArray → Bool) (x : Val) : SoundV nm x ↔ HeadP x.k x.n x.t x.l.length x.d.length ∧ (∀ y ∈ x.l, SoundV nm y) ∧ (∀ f ∈ x.d, SoundV nm f.v) ∧ NamesP nm x.d := by
  cases x
  rw [SoundV, SoundLs_iff, SoundDs_iff]
  rfl
/-- the fields of a document -/
def FieldsP (nm : ByteArray → Bool) (d : List Fld) : Prop := NamesP nm d ∧ ∀ f ∈ d, SoundV nm f.v
noncomputable def soundB (nm : ByteArray → Bool) (x : Val) : Bool := @decide (SoundV nm x) (Classical.propDecidable _)
noncomputable def fieldsB (nm : ByteArray → Bool) (d : List Fld) : Bool := @decide (FieldsP nm d) (Classical.propDecidable _)
section
variable {nm : ByteArray → Bool} {x : Val} {d : List Fld}
theorem soundB_true (h : SoundV nm x) : soundB nm x = true := by unfold soundB; exact @decide_eq_true _ (Classical.propDecidable _) h
theorem soundB_false (h : ¬ SoundV nm x) : soundB nm x = false := by unfold soundB; exact @decide_eq_false _ (Classical.propDecidable _) h
theorem soundB_iff : soundB nm x = true ↔ SoundV nm x := by unfold soundB; exact @decide_eq_true_iff _ (Classical.propDecidable _)
theorem soundB_not : soundB nm x = false ↔ ¬ SoundV nm x := by unfold soundB; exact @decide_eq_false_iff_not _ (Classical.propDecidable _)
theorem fieldsB_true (h : FieldsP nm d) : fieldsB nm d = true := by unfold fieldsB; exact @decide_eq_true _ (Classical.propDecidable _) h
theorem fieldsB_false (h : ¬ FieldsP nm d) : fieldsB nm d = false := by unfold fieldsB; exact @decide_eq_false _ (Classical.propDecidable _) h
theorem fieldsB_iff : fieldsB nm d = true ↔ FieldsP nm d := by unfold fieldsB; exact @decide_eq_true_iff _ (Classical.propDecidable _)
/-- the fields before i are sound -/
theorem FieldsP.nil : FieldsP nm [] := ⟨⟨by simp, by simp⟩, by simp⟩
theorem FieldsP.next {i : Nat} {f : Fld} (h : FieldsP nm (d.take i)) (hf : d[i]? = some f) (h1 : nm f.s = true) (h2 : f.s ∉ (d.take i).map Fld.s) (h3 : SoundV nm f.v) : FieldsP nm (d.take (i + 1)) := by
  rw [take_snoc' hf]
  refine ⟨⟨fun g hg => ?_, ?_⟩, fun g hg => ?_⟩
  · rcases List.mem_append.1 hg with hg | hg
    · exact h.1.1 g hg
    · simp at hg; subst hg; exact h1
  · rw [List.map_append, List.nodup_append]
    refine ⟨h.1.2, by simp, fun a ha b hb => ?_⟩
    simp at hb
    subst hb
    intro e
    subst e
    exact h2 ha
  · rcases List.mem_append.1 hg with hg | hg
    · exact h.2 g hg
    · simp at hg; subst hg; exact h3
theorem FieldsP.not_name {i : Nat} {f : Fld} (hf : d[i]? = some f) (h1 : nm f.s = false) : ¬ FieldsP nm d := fun h => by
  have := h.1.1 f (List.mem_of_getElem? hf)
  rw [h1] at this
  cases this
theorem FieldsP.not_sound {i : Nat} {f : Fld} (hf : d[i]? = some f) (h1 : ¬ SoundV nm f.v) : ¬ FieldsP nm d := fun h => h1 (h.2 f (List.mem_of_getElem? hf))
theorem FieldsP.not_new {i : Nat} {f : Fld} (hf : d[i]? = some f) (h1 : f.s ∈ (d.take i).map Fld.s) : ¬ FieldsP nm d := fun h => by
  have hn := h.1.2
  have e : d = d.take i ++ f :: d.drop (i + 1) := by rw [← drop_of hf, List.take_append_drop]
  rw [e, List.map_append, List.nodup_append] at hn
  exact hn.2.2 f.s h1 f.s (by simp) rfl
end
/-- a document's value -/
theorem sound_doc {nm : ByteArray → Bool} {x : Val} (hk : x.k = 5) (hh : HeadP x.k x.n x.t x.l.length x.d.length) : soundB nm x = fieldsB nm x.d := by
  have hl : x.l = [] := List.eq_nil_of_length_eq_zero (by have := hh.2.2.1; omega)
  by_cases h : FieldsP nm x.d
  · rw [fieldsB_true h]
    exact soundB_true ((SoundV_iff nm x).2 ⟨hh, by simp [hl], h.2, h.1⟩)
  · rw [fieldsB_false h]
    exact soundB_false fun hs => h ⟨((SoundV_iff nm x).1 hs).2.2.2, ((SoundV_iff nm x).1 hs).2.2.1⟩
theorem sound_list {nm : ByteArray → Bool} {x : Val} (hk : x.k = 6) (hh : HeadP x.k x.n x.t x.l.length x.d.length) (h : ∀ y ∈ x.l, SoundV nm y) : soundB nm x = true := by
  have hd : x.d = [] := List.eq_nil_of_length_eq_zero (by have := hh.2.2.2.1; omega)
  exact soundB_true ((SoundV_iff nm x).2 ⟨hh, h, by simp [hd], by simp [hd, NamesP]⟩)
theorem sound_not {nm : ByteArray → Bool} {x : Val} (h : ¬ HeadP x.k x.n x.t x.l.length x.d.length) : soundB nm x = false := soundB_false fun hs => h ((SoundV_iff nm x).1 hs).1
theorem sound_not_at {nm : ByteArray → Bool} {x : Val} {i : Nat} {y : Val} (hy : x.l[i]? = some y) (h : ¬ SoundV nm y) : soundB nm x = false := soundB_false fun hs => h (((SoundV_iff nm x).1 hs).2.1 y (List.mem_of_getElem? hy))
theorem sound_leaf {nm : ByteArray → Bool} {x : Val} (h5 : x.k ≠ 5) (h6 : x.k ≠ 6) (hh : HeadP x.k x.n x.t x.l.length x.d.length) : soundB nm x = true := by
  have hl : x.l = [] := List.eq_nil_of_length_eq_zero (by have := hh.2.2.1; omega)
  have hd : x.d = [] := List.eq_nil_of_length_eq_zero (by have := hh.2.2.2.1; omega)
  exact soundB_true ((SoundV_iff nm x).2 ⟨hh, by simp [hl], by simp [hd], by simp [hd, NamesP]⟩)

/-- valid values -/
noncomputable def validV (x : Val) : Bool := decide (x.size ≤ 1024) && decide (x.height ≤ 16) && soundB nameB x
noncomputable def formedV (x : Val) : Bool := decide (x.size ≤ 1024) && decide (x.height ≤ 16) && soundB wideB x

end Go.Proofs.YtgcklgkhdokchaaDoor
