/- Parts of the proof, joined: ShFormsPure, ValSoundPure, EncPure, EncNum, EncRef, ShAfter, EncApp. -/
import Derived.Test.YtlmmgjgkmbmgpaaGreatDoorB3
import Derived.Test.YtlmmgjgkmbmgpaaGreatDoorB2
import Derived.Test.YtlmmgjgkmbmgpaaGreatDoorB1
import Derived.Lib.SplitLaws
import Derived.Lib.IndexBytes
import Derived.Lib.ValidU
import Derived.Laws.BytesArg
import Derived.Laws.Strings
import Derived.Laws.Concat
import Derived.Lib.AppendStr
/- Shard keys out of values: what Parse computes, and the pieces of a text between its periods. -/
namespace Go.Proofs.YtlmmgjgkmbmgpaaGreatDoor
open Go.RowKit

def dotA : ByteArray := ⟨#[46]⟩
def splitP (s : ByteArray) : List ByteArray := Lib.splitB dotA 0 (Lib.countB s dotA) s
theorem dotA_size : dotA.size = 1 := rfl
theorem iB_hit {c : UInt8} : ∀ {l : List UInt8} {k : Nat}, l[k]? = some c → (∀ j, j < k → l[j]? ≠ some c) → Lib.indexByte l c = (k : Int) := by
  intro l
  induction l with
  | nil => intro k h; simp at h
  | cons b l ih =>
    intro k h hno
    cases k with
    | zero =>
      simp at h
      subst h
      simp [Lib.indexByte]
    | succ k =>
      have hb : b ≠ c := fun e => hno 0 (by omega) (by simp [e])
      have := ih (k := k) (by simpa using h) (fun j hj => by have := hno (j + 1) (by omega); simpa using this)
      rw [Lib.indexByte, if_neg (by simpa using hb), this, if_neg (by simp)]
      simp
theorem iB_miss {c : UInt8} : ∀ {l : List UInt8}, (∀ j : Nat, l[j]? ≠ some c) → Lib.indexByte l c = -1 := by
  intro l
  induction l with
  | nil => intro _; rfl
  | cons b l ih =>
    intro hno
    have hb : b ≠ c := fun e => hno 0 (by simp [e])
    have := ih (fun j => by have := hno (j + 1); simpa using this)
    rw [Lib.indexByte, if_neg (by simpa using hb), this, if_pos (by rfl)]
theorem index_dot (t : ByteArray) : Lib.indexB t dotA = Lib.indexByte t.data.toList 46 := Lib.index_one _ _
theorem ba_ext {a b : ByteArray} (h : a.data.toList = b.data.toList) : a = b := by
  obtain ⟨⟨x⟩⟩ := a
  obtain ⟨⟨y⟩⟩ := b
  simp at h
  rw [h]
theorem ext_list (s : ByteArray) (a b : Nat) : (s.extract a b).data.toList = (s.data.toList.take b).drop a := by
  rw [Lib.extract_data, List.drop_take]
theorem len_size (s : ByteArray) : s.data.toList.length = s.size := by obtain ⟨⟨l⟩⟩ := s; rfl
theorem ext_at (s : ByteArray) (f j : Nat) : (s.extract f s.size).data.toList[j]? = s.data.toList[f + j]? := by
  rw [ext_list, List.take_of_length_le (by rw [len_size]; exact Nat.le_refl _), List.getElem?_drop]
theorem split_hit {s : ByteArray} {f i : Nat} (hf : f ≤ i) (hi : s.data.toList[i]? = some 46) (hno : ∀ j, f ≤ j → j < i → s.data.toList[j]? ≠ some 46) :
    splitP (s.extract f s.size) = s.extract f i :: splitP (s.extract (i + 1) s.size) := by
  have his : i < s.size := by have := (List.getElem?_eq_some_iff.1 hi).1; rwa [len_size] at this
  have hx : Lib.indexB (s.extract f s.size) dotA = ((i - f : Nat) : Int) := by
    rw [index_dot]
    refine iB_hit ?_ ?_
    · rw [ext_at, show f + (i - f) = i by omega]; exact hi
    · intro j hj; rw [ext_at]; exact hno (f + j) (by omega) (by omega)
  have hr : (s.extract f s.size).extract (i - f + dotA.size) (s.extract f s.size).size = s.extract (i + 1) s.size := by
    apply ba_ext
    rw [Lib.extract_to_end, Lib.extract_to_end, Lib.extract_to_end, List.drop_drop]
    congr 1
    rw [dotA_size]
    omega
  unfold splitP
  rw [Lib.countB_hit _ _ (i - f) (by decide) hx, hr, Nat.add_comm, Lib.splitB_hit _ _ _ _ (i - f) hx, hr]
  congr 1
  apply ba_ext
  rw [ext_list, ext_list, ext_list, List.take_of_length_le (l := s.data.toList) (i := s.size) (by rw [len_size]; exact Nat.le_refl _)]
  rw [List.drop_zero, Nat.add_zero, List.take_drop, show f + (i - f) = i by omega]
theorem split_end {s : ByteArray} {f : Nat} (hno : ∀ j, f ≤ j → s.data.toList[j]? ≠ some 46) : splitP (s.extract f s.size) = [s.extract f s.size] := by
  have hx : Lib.indexB (s.extract f s.size) dotA = -1 := by
    rw [index_dot]
    refine iB_miss fun j => ?_
    rw [ext_at]
    exact hno (f + j) (by omega)
  unfold splitP
  exact Lib.splitB_miss _ _ _ _ hx
theorem ext_all (s : ByteArray) : s.extract 0 s.size = s := by
  apply ba_ext
  rw [ext_list, List.drop_zero, List.take_of_length_le (by rw [len_size]; exact Nat.le_refl _)]
theorem split_len (s : ByteArray) : (splitP s).length = Lib.countB s dotA + 1 := Lib.splitB_all _ (by decide) _ _ _ rfl
theorem split_le (s : ByteArray) : (splitP s).length ≤ s.size + 1 := by
  rw [split_len]
  have := Lib.countB_le dotA (by decide) s.size s (Nat.le_refl _)
  omega
theorem splitB_small {sep : ByteArray} : ∀ (k : Nat) (s : ByteArray), ∀ t ∈ Lib.splitB sep 0 k s, t.size ≤ s.size := by
  intro k
  induction k with
  | zero => intro s t h; simp [Lib.splitB] at h; subst h; exact Nat.le_refl _
  | succ k ih =>
    intro s t h
    unfold Lib.splitB at h
    split at h
    · simp at h; subst h; exact Nat.le_refl _
    · rcases List.mem_cons.1 h with h | h
      · subst h; rw [ByteArray.size_extract]; omega
      · have := ih _ t h
        rw [ByteArray.size_extract] at this
        omega
theorem split_small (s : ByteArray) : ∀ t ∈ splitP s, t.size ≤ s.size := splitB_small _ _

/-- a step of a shard key -/
def hashT : ByteArray := ⟨#[104, 97, 115, 104, 101, 100]⟩
def isOne (x : Val) : Bool := (x.k == 3) && (x.n == 1)
def isHash (x : Val) : Bool := (x.k == 4) && (x.t.toList == hashT.toList)
noncomputable def parL : List Fld → List Od → Bool → (List Od × Bool) × Int
  | [], ks, ha => if keyE ks ha = 0 then ((ks, ha), 0) else (([], false), keyE ks ha)
  | f :: r, ks, ha =>
    if pathB (splitP f.s) = true then
      (if isOne f.v = true then parL r (ks ++ [⟨splitP f.s, false⟩]) ha
       else if isHash f.v = true then parL r (ks ++ [⟨splitP f.s, false⟩]) true else (([], false), 4))
    else (([], false), 10)
noncomputable def parR (x : Val) : (List Od × Bool) × Int := if x.k = 5 then parL x.d [] false else (([], false), 4)
theorem parL_ok : ∀ (d : List Fld) (ks : List Od) (ha : Bool), (parL d ks ha).2 = 0 → keyE (parL d ks ha).1.1 (parL d ks ha).1.2 = 0
  | [], ks, ha, h => by
    unfold parL at h ⊢
    by_cases he : keyE ks ha = 0
    · rw [if_pos he]; exact he
    · rw [if_neg he] at h; exact absurd h he
  | f :: r, ks, ha, h => by
    unfold parL at h ⊢
    split at h
    · rename_i h1
      rw [if_pos h1]
      split at h
      · rename_i h2; rw [if_pos h2]; exact parL_ok r _ _ h
      · rename_i h2
        rw [if_neg h2]
        split at h
        · rename_i h3; rw [if_pos h3]; exact parL_ok r _ _ h
        · simp at h
    · simp at h
theorem parR_ok (x : Val) (h : (parR x).2 = 0) : keyE (parR x).1.1 (parR x).1.2 = 0 := by
  unfold parR at h ⊢
  split at h
  · rename_i h1; rw [if_pos h1]; exact parL_ok _ _ _ h
  · simp at h

end Go.Proofs.YtlmmgjgkmbmgpaaGreatDoor

/- Sound values in plain words. -/
namespace Go.Proofs.YtlmmgjgkmbmgpaaGreatDoor

def utf8B (t : ByteArray) : Bool := Lib.validD t.data.toList
/-- the conditions of a value's kind -/
def HeadP (k n : Int) (t : ByteArray) (ln dn : Nat) : Prop :=
  (k = 3 ∨ k = 9 ∨ k = 10 ∨ n = 0) ∧ (k = 4 ∨ k = 7 ∨ k = 8 ∨ t.size = 0) ∧ (k = 6 ∨ ln = 0) ∧ (k = 5 ∨ dn = 0) ∧
  (k = 1 ∨ k = 2 ∨ k = 11 ∨ k = 3 ∨ (k = 9 ∧ (n = 0 ∨ n = 1)) ∨ (k = 10 ∧ 0 ≤ n) ∨ (k = 4 ∧ t.size ≤ 4096 ∧ utf8B t = true) ∨ (k = 7 ∧ t.size ≤ 4096) ∨ (k = 8 ∧ t.size = 12) ∨ k = 6 ∨ k = 5)
/-- distinct names -/
def NamesP (nm : ByteArray → Bool) (d : List Fld) : Prop := (∀ f ∈ d, nm f.s = true) ∧ (d.map Fld.s).Nodup
mutual
def SoundV (nm : ByteArray → Bool) : Val → Prop
  | .mk k n t l d => HeadP k n t l.length d.length ∧ SoundLs nm l ∧ SoundDs nm d ∧ NamesP nm d
def SoundLs (nm : ByteArray → Bool) : List Val → Prop
  | [] => True
  | x :: r => SoundV nm x ∧ SoundLs nm r
def SoundDs (nm : ByteArray → Bool) : List Fld → Prop
  | [] => True
  | f :: r => SoundF nm f ∧ SoundDs nm r
def SoundF (nm : ByteArray → Bool) : Fld → Prop
  | .mk _ v => SoundV nm v
end
theorem SoundLs_iff (nm : ByteArray → Bool) (l : List Val) : SoundLs nm l ↔ ∀ y ∈ l, SoundV nm y := by
  induction l with
  | nil => simp [SoundLs]
  | cons x r ih => simp [SoundLs, ih]
theorem SoundF_iff (nm : ByteArray → Bool) (f : Fld) : SoundF nm f ↔ SoundV nm f.v := by cases f; simp only [SoundF]; rfl
theorem SoundDs_iff (nm : ByteArray → Bool) (d : List Fld) : SoundDs nm d ↔ ∀ f ∈ d, SoundV nm f.v := by
  induction d with
  | nil => simp [SoundDs]
  | cons x r ih => simp [SoundDs, ih, SoundF_iff]
theorem SoundV_iff (nm : ByteArray → Bool) (x : Val) : SoundV nm x ↔ HeadP x.k x.n x.t x.l.length x.d.length ∧ (∀ y ∈ x.l, SoundV nm y) ∧ (∀ f ∈ x.d, SoundV nm f.v) ∧ NamesP nm x.d := by
  cases x
  rw [SoundV, SoundLs_iff, SoundDs_iff]
  rfl
/-- the fields of a document -/
def FieldsP (nm : ByteArray → Bool) (d : List Fld) : Prop := NamesP nm d ∧ ∀ f ∈ d, SoundV nm f.v
noncomputable def soundB (nm : ByteArray → Bool) (x : Val) : Bool := @decide (SoundV nm x) (Classical.propDecidable _)
noncomputable def fieldsB (nm : ByteArray → Bool) (d : List Fld) : Bool := @decide (FieldsP nm d) (Classical.propDecidable _)
section
variable {nm : ByteArray → Bool} {x : Val} {d : List Fld}
theorem soundB_true (h : SoundV nm x) : soundB nm x = true := by unfold soundB; exact @decide_eq_true _ (Classical.propDecidable _) h
theorem soundB_false (h : ¬ SoundV nm x) : soundB nm x = false := by unfold soundB; exact @decide_eq_false _ (Classical.propDecidable _) h
theorem soundB_iff : soundB nm x = true ↔ SoundV nm x := by unfold soundB; exact @decide_eq_true_iff _ (Classical.propDecidable _)
theorem soundB_not : soundB nm x = false ↔ ¬ SoundV nm x := by unfold soundB; exact @decide_eq_false_iff_not _ (Classical.propDecidable _)
theorem fieldsB_true (h : FieldsP nm d) : fieldsB nm d = true := by unfold fieldsB; exact @decide_eq_true _ (Classical.propDecidable _) h
theorem fieldsB_false (h : ¬ FieldsP nm d) : fieldsB nm d = false := by unfold fieldsB; exact @decide_eq_false _ (Classical.propDecidable _) h
theorem fieldsB_iff : fieldsB nm d = true ↔ FieldsP nm d := by unfold fieldsB; exact @decide_eq_true_iff _ (Classical.propDecidable _)
/-- the fields before i are sound -/
theorem FieldsP.nil : FieldsP nm [] := ⟨⟨by simp, by simp⟩, by simp⟩
theorem FieldsP.next {i : Nat} {f : Fld} (h : FieldsP nm (d.take i)) (hf : d[i]? = some f) (h1 : nm f.s = true) (h2 : f.s ∉ (d.take i).map Fld.s) (h3 : SoundV nm f.v) : FieldsP nm (d.take (i + 1)) := by
  rw [take_snoc' hf]
  refine ⟨⟨fun g hg => ?_, ?_⟩, fun g hg => ?_⟩
  · rcases List.mem_append.1 hg with hg | hg
    · exact h.1.1 g hg
    · simp at hg; subst hg; exact h1
  · rw [List.map_append, List.nodup_append]
    refine ⟨h.1.2, by simp, fun a ha b hb => ?_⟩
    simp at hb
    subst hb
    intro e
    subst e
    exact h2 ha
  · rcases List.mem_append.1 hg with hg | hg
    · exact h.2 g hg
    · simp at hg; subst hg; exact h3
theorem FieldsP.not_name {i : Nat} {f : Fld} (hf : d[i]? = some f) (h1 : nm f.s = false) : ¬ FieldsP nm d := fun h => by
  have := h.1.1 f (List.mem_of_getElem? hf)
  rw [h1] at this
  cases this
theorem FieldsP.not_sound {i : Nat} {f : Fld} (hf : d[i]? = some f) (h1 : ¬ SoundV nm f.v) : ¬ FieldsP nm d := fun h => h1 (h.2 f (List.mem_of_getElem? hf))
theorem FieldsP.not_new {i : Nat} {f : Fld} (hf : d[i]? = some f) (h1 : f.s ∈ (d.take i).map Fld.s) : ¬ FieldsP nm d := fun h => by
  have hn := h.1.2
  have e : d = d.take i ++ f :: d.drop (i + 1) := by rw [← drop_of hf, List.take_append_drop]
  rw [e, List.map_append, List.nodup_append] at hn
  exact hn.2.2 f.s h1 f.s (by simp) rfl
end
/-- a document's value -/
theorem sound_doc {nm : ByteArray → Bool} {x : Val} (hk : x.k = 5) (hh : HeadP x.k x.n x.t x.l.length x.d.length) : soundB nm x = fieldsB nm x.d := by
  have hl : x.l = [] := List.eq_nil_of_length_eq_zero (by have := hh.2.2.1; omega)
  by_cases h : FieldsP nm x.d
  · rw [fieldsB_true h]
    exact soundB_true ((SoundV_iff nm x).2 ⟨hh, by simp [hl], h.2, h.1⟩)
  · rw [fieldsB_false h]
    exact soundB_false fun hs => h ⟨((SoundV_iff nm x).1 hs).2.2.2, ((SoundV_iff nm x).1 hs).2.2.1⟩
theorem sound_list {nm : ByteArray → Bool} {x : Val} (hk : x.k = 6) (hh : HeadP x.k x.n x.t x.l.length x.d.length) (h : ∀ y ∈ x.l, SoundV nm y) : soundB nm x = true := by
  have hd : x.d = [] := List.eq_nil_of_length_eq_zero (by have := hh.2.2.2.1; omega)
  exact soundB_true ((SoundV_iff nm x).2 ⟨hh, h, by simp [hd], by simp [hd, NamesP]⟩)
theorem sound_not {nm : ByteArray → Bool} {x : Val} (h : ¬ HeadP x.k x.n x.t x.l.length x.d.length) : soundB nm x = false := soundB_false fun hs => h ((SoundV_iff nm x).1 hs).1
theorem sound_not_at {nm : ByteArray → Bool} {x : Val} {i : Nat} {y : Val} (hy : x.l[i]? = some y) (h : ¬ SoundV nm y) : soundB nm x = false := soundB_false fun hs => h (((SoundV_iff nm x).1 hs).2.1 y (List.mem_of_getElem? hy))
theorem sound_leaf {nm : ByteArray → Bool} {x : Val} (h5 : x.k ≠ 5) (h6 : x.k ≠ 6) (hh : HeadP x.k x.n x.t x.l.length x.d.length) : soundB nm x = true := by
  have hl : x.l = [] := List.eq_nil_of_length_eq_zero (by have := hh.2.2.1; omega)
  have hd : x.d = [] := List.eq_nil_of_length_eq_zero (by have := hh.2.2.2.1; omega)
  exact soundB_true ((SoundV_iff nm x).2 ⟨hh, by simp [hl], by simp [hd], by simp [hd, NamesP]⟩)

/-- valid values -/
noncomputable def validV (x : Val) : Bool := decide (x.size ≤ 1024) && decide (x.height ≤ 16) && soundB nameB x
noncomputable def formedV (x : Val) : Bool := decide (x.size ≤ 1024) && decide (x.height ≤ 16) && soundB wideB x

end Go.Proofs.YtlmmgjgkmbmgpaaGreatDoor

/- The encoding of values as lists of bytes. -/
namespace Go.Proofs.YtlmmgjgkmbmgpaaGreatDoor
open Go.RowKit

/-- byte number s / 8 of a number as it is encoded -/
def U64 (n : Int) : Nat := ((n + 9223372036854775808) % 18446744073709551616).toNat
def num8 (n : Int) (s : Nat) : Int := ((U64 n / 2 ^ s % 256 : Nat) : Int)
def numsTo (n : Int) (i : Nat) : List Int := (List.range i).map fun j => num8 n (56 - 8 * j)
def nums (n : Int) : List Int := numsTo n 8
theorem numsTo_succ (n : Int) (i : Nat) : numsTo n (i + 1) = numsTo n i ++ [num8 n (56 - 8 * i)] := by
  unfold numsTo
  rw [List.range_succ, List.map_append]
  rfl
theorem numsTo_len (n : Int) (i : Nat) : (numsTo n i).length = i := by simp [numsTo]
theorem num8_lt (n : Int) (s : Nat) : 0 ≤ num8 n s ∧ num8 n s < 256 := by
  unfold num8
  omega
/-- a byte of a text -/
def byteN (x : UInt8) : List Int := if x = 0 then [0, 255] else [(x.toNat : Int)]
def textN : List UInt8 → List Int
  | [] => []
  | x :: r => byteN x ++ textN r
def strN (s : ByteArray) : List Int := s.data.toList.map fun x => (x.toNat : Int)
mutual
def encV : Val → List Int
  | .mk k n t l d => k :: (if k = 3 ∨ k = 9 ∨ k = 10 then nums n else if k = 4 ∨ k = 7 ∨ k = 8 then textN t.data.toList ++ [0, 0] else if k = 6 then encL l ++ [0] else if k = 5 then encD d ++ [0] else [])
def encL : List Val → List Int
  | [] => []
  | v :: r => 1 :: (encV v ++ encL r)
def encD : List Fld → List Int
  | [] => []
  | f :: r => encF f ++ encD r
def encF : Fld → List Int
  | .mk s v => 1 :: (strN s ++ 0 :: encV v)
end
theorem encF_eq (f : Fld) : encF f = 1 :: (strN f.s ++ 0 :: encV f.v) := by cases f; simp only [encF]; rfl
theorem encV_eq (x : Val) : encV x = x.k :: (if x.k = 3 ∨ x.k = 9 ∨ x.k = 10 then nums x.n else if x.k = 4 ∨ x.k = 7 ∨ x.k = 8 then textN x.t.data.toList ++ [0, 0] else if x.k = 6 then encL x.l ++ [0] else if x.k = 5 then encD x.d ++ [0] else []) := by cases x; rw [encV]; rfl
theorem encL_append : ∀ l m : List Val, encL (l ++ m) = encL l ++ encL m
  | [], m => rfl
  | a :: r, m => by rw [List.cons_append, encL, encL, encL_append r m]; simp
theorem encD_append : ∀ l m : List Fld, encD (l ++ m) = encD l ++ encD m
  | [], m => rfl
  | a :: r, m => by rw [List.cons_append, encD, encD, encD_append r m]; simp
theorem encL_snoc {l : List Val} {i : Nat} {y : Val} (h : l[i]? = some y) : encL (l.take (i + 1)) = encL (l.take i) ++ 1 :: encV y := by
  rw [take_snoc' h, encL_append, encL, encL]
  simp
theorem encD_snoc {l : List Fld} {i : Nat} {y : Fld} (h : l[i]? = some y) : encD (l.take (i + 1)) = encD (l.take i) ++ (1 :: (strN y.s ++ 0 :: encV y.v)) := by
  rw [take_snoc' h, encD_append, encD, encD, encF_eq]
  simp
theorem textN_append : ∀ l m : List UInt8, textN (l ++ m) = textN l ++ textN m
  | [], m => rfl
  | a :: r, m => by
    rw [List.cons_append, textN, textN, textN_append r m, List.append_assoc]
theorem textN_snoc {l : List UInt8} {i : Nat} {y : UInt8} (h : l[i]? = some y) : textN (l.take (i + 1)) = textN (l.take i) ++ byteN y := by
  rw [take_snoc' h, textN_append, textN, textN]
  simp
theorem textN_len : ∀ l : List UInt8, (textN l).length ≤ 2 * l.length
  | [] => by simp [textN]
  | a :: r => by
    have := textN_len r
    rw [textN, byteN]
    split <;> simp <;> omega
/-- the encodings of values, one behind the other -/
def encAll (l : List Val) : List Int := l.flatMap encV
theorem encAll_snoc {l : List Val} {i : Nat} {y : Val} (h : l[i]? = some y) : encAll (l.take (i + 1)) = encAll (l.take i) ++ encV y := by
  rw [take_snoc' h]
  simp [encAll]

/-- the length of an encoding: texts of at most 4096 bytes, names of at most 32 -/
theorem dsize (t : ByteArray) : t.data.toList.length = t.size := by rw [Array.length_toList]; rfl
theorem HeadP.text {k n : Int} {t : ByteArray} {ln dn : Nat} (h : HeadP k n t ln dn) : t.data.toList.length ≤ 4096 := by
  have e := dsize t
  obtain ⟨_, h2, _, _, h5⟩ := h
  rw [e]
  rcases h2 with h | h | h | h <;> rcases h5 with h' | h' | h' | h' | ⟨h', _⟩ | ⟨h', _⟩ | ⟨h', h'', _⟩ | ⟨h', h''⟩ | ⟨h', h''⟩ | h' | h' <;> omega
theorem HeadP.kind {k n : Int} {t : ByteArray} {ln dn : Nat} (h : HeadP k n t ln dn) : 1 ≤ k ∧ k ≤ 11 := by
  obtain ⟨_, _, _, _, h5⟩ := h
  rcases h5 with h' | h' | h' | h' | ⟨h', _⟩ | ⟨h', _⟩ | ⟨h', h'', _⟩ | ⟨h', h''⟩ | ⟨h', h''⟩ | h' | h' <;> omega
theorem encL_len : ∀ {l : List Val}, (∀ y ∈ l, (encV y).length + 40 ≤ 8300 * y.size) → (encL l).length ≤ 8300 * sizeL l
  | [], _ => by simp [encL, sizeL]
  | a :: r, h => by
    have h1 := h a (by simp)
    have h2 := encL_len (l := r) fun y hy => h y (by simp [hy])
    rw [encL, sizeL]
    simp
    omega
theorem name_len {s : ByteArray} (h : nameB s = true) : (strN s).length ≤ 32 := by
  simp only [nameB, Bool.and_eq_true, decide_eq_true_eq] at h
  have e := dsize s
  unfold strN
  rw [List.length_map, e]
  exact h.1.1.2
theorem encD_len : ∀ {l : List Fld}, (∀ f ∈ l, nameB f.s = true ∧ (encV f.v).length + 40 ≤ 8300 * f.v.size) → (encD l).length ≤ 8300 * sizeL (l.map Fld.v)
  | [], _ => by simp [encD, sizeL]
  | a :: r, h => by
    obtain ⟨h0, h1⟩ := h a (by simp)
    have h2 := encD_len (l := r) fun y hy => h y (by simp [hy])
    have h3 := name_len h0
    rw [encD, List.map_cons, sizeL, encF_eq]
    simp
    omega
theorem enc_len (x : Val) : SoundV nameB x → (encV x).length + 40 ≤ 8300 * x.size := by
  induction x using Val.ind with
  | h k n t l d ihl ihd =>
    intro hs
    obtain ⟨hh, hl, hd, hn⟩ := (SoundV_iff nameB _).1 hs
    simp only [Val.k, Val.n, Val.t, Val.l, Val.d] at hh hl hd hn
    have ht := hh.text
    have e := size_parts (.mk k n t l d)
    rw [encV_eq, e]
    show (k :: (if k = 3 ∨ k = 9 ∨ k = 10 then nums n else if k = 4 ∨ k = 7 ∨ k = 8 then textN t.data.toList ++ [0, 0] else if k = 6 then encL l ++ [0] else if k = 5 then encD d ++ [0] else [])).length + 40 ≤ 8300 * (1 + sizeL (if k = 6 then l else if k = 5 then d.map Fld.v else []))
    have hx := textN_len t.data.toList
    by_cases h1 : k = 3 ∨ k = 9 ∨ k = 10
    · rw [if_pos h1]
      have := numsTo_len n 8
      simp only [List.length_cons, nums]
      omega
    rw [if_neg h1]
    by_cases h2 : k = 4 ∨ k = 7 ∨ k = 8
    · rw [if_pos h2]
      simp only [List.length_cons, List.length_append, List.length_nil]
      omega
    rw [if_neg h2]
    by_cases h6 : k = 6
    · rw [if_pos h6, if_pos h6]
      have := encL_len (l := l) fun y hy => ihl y hy (hl y hy)
      simp only [List.length_cons, List.length_append, List.length_nil]
      omega
    rw [if_neg h6, if_neg h6]
    by_cases h5 : k = 5
    · rw [if_pos h5, if_pos h5]
      have := encD_len (l := d) fun f hf => ⟨hn.1 f hf, ihd f hf (hd f hf)⟩
      simp only [List.length_cons, List.length_append, List.length_nil]
      omega
    · rw [if_neg h5, if_neg h5]
      simp only [List.length_cons, List.length_nil]
      omega

/-- the missing value -/
def missB (x : Val) : Bool := decide (x.k = 0) && (decide (x.n = 0) && (decide (x.t.size = 0) && (decide (x.l.length = 0) && decide (x.d.length = 0))))
/-- what may be encoded -/
noncomputable def allowB (x : Val) : Bool := missB x || validV x
def Enc1 (x : Val) : Prop := missB x = true ∨ SoundV nameB x
theorem allow_enc {x : Val} (h : allowB x = true) : Enc1 x ∧ (encV x).length ≤ 8500000 := by
  unfold allowB at h
  rw [Bool.or_eq_true] at h
  rcases h with h | h
  · refine ⟨.inl h, ?_⟩
    simp only [missB, Bool.and_eq_true, decide_eq_true_eq] at h
    rw [encV_eq, h.1]
    simp
  · simp only [validV, Bool.and_eq_true, decide_eq_true_eq] at h
    have hs := soundB_iff.1 h.2
    refine ⟨.inr hs, ?_⟩
    have := enc_len x hs
    have := h.1.1
    omega
theorem Enc1.kind {x : Val} (h : Enc1 x) : 0 ≤ x.k ∧ x.k ≤ 11 := by
  rcases h with h | h
  · simp only [missB, Bool.and_eq_true, decide_eq_true_eq] at h
    omega
  · have := ((SoundV_iff nameB x).1 h).1.kind
    omega
theorem Enc1.text {x : Val} (h : Enc1 x) : x.t.size ≤ 4096 := by
  rcases h with h | h
  · simp only [missB, Bool.and_eq_true, decide_eq_true_eq] at h
    omega
  · have := ((SoundV_iff nameB x).1 h).1.text
    rwa [dsize] at this
theorem Enc1.list {x : Val} (h : Enc1 x) : ∀ y ∈ x.l, Enc1 y := by
  intro y hy
  rcases h with h | h
  · simp only [missB, Bool.and_eq_true, decide_eq_true_eq] at h
    have := List.eq_nil_of_length_eq_zero h.2.2.2.1
    rw [this] at hy
    cases hy
  · exact .inr (((SoundV_iff nameB x).1 h).2.1 y hy)
theorem Enc1.doc {x : Val} (h : Enc1 x) : ∀ f ∈ x.d, Enc1 f.v ∧ nameB f.s = true := by
  intro y hy
  rcases h with h | h
  · simp only [missB, Bool.and_eq_true, decide_eq_true_eq] at h
    have := List.eq_nil_of_length_eq_zero h.2.2.2.2
    rw [this] at hy
    cases hy
  · exact ⟨.inr (((SoundV_iff nameB x).1 h).2.2.1 y hy), ((SoundV_iff nameB x).1 h).2.2.2.1 y hy⟩

/-- the cells of bytes -/
def recB (z : Int) : List Value := [.int .u8 z]
theorem recB_length (z : Int) : (recB z).length = 1 := rfl
def bytesC (l : List Int) : List Value := l.map (Value.int .u8)
theorem bytesC_len (l : List Int) : (bytesC l).length = l.length := by simp [bytesC]
theorem bytesC_app (l m : List Int) : bytesC (l ++ m) = bytesC l ++ bytesC m := by simp [bytesC]
/-- bytes as texts -/
theorem strOfNums_append (l m : List Int) : strOfNums (l ++ m) = strOfNums l ++ strOfNums m := by
  apply ByteArray.ext
  simp [strOfNums]
theorem strOfNums_strN (s : ByteArray) : strOfNums (strN s) = s := by
  apply ByteArray.ext
  apply Array.ext'
  simp only [strOfNums, strN, List.map_map, List.toList_toArray]
  conv => rhs; rw [← List.map_id s.data.toList]
  apply List.map_congr_left
  intro x _
  simp
theorem strOfNums_nil : strOfNums [] = ByteArray.empty := rfl
theorem strN_len (s : ByteArray) : (strN s).length = s.size := by rw [strN, List.length_map, dsize]

end Go.Proofs.YtlmmgjgkmbmgpaaGreatDoor

/- Plain arithmetic of the eight bytes of a number. -/
namespace Go.Proofs.YtlmmgjgkmbmgpaaGreatDoor
open Go.RowKit

theorem xor_top (a : Nat) (h : a < 18446744073709551616) : a ^^^ 9223372036854775808 = (a + 9223372036854775808) % 18446744073709551616 := by
  have key : ∀ r, r < 9223372036854775808 → r ^^^ 9223372036854775808 = r + 9223372036854775808 := by
    intro r hr
    have e := Nat.two_pow_add_eq_or_of_lt (i := 63) (a := 1) (b := r) (by simpa using hr)
    rw [show r + 9223372036854775808 = 2 ^ 63 * 1 + r by omega, e]
    apply Nat.eq_of_testBit_eq
    intro i
    rw [Nat.testBit_xor, Nat.testBit_or, show (9223372036854775808 : Nat) = 2 ^ 63 from rfl, Nat.mul_one]
    rw [Nat.testBit_two_pow]
    by_cases hi : 63 = i
    · subst hi
      rw [Nat.testBit_lt_two_pow hr]
      simp
    · simp [hi]
  rcases Nat.lt_or_ge a 9223372036854775808 with hl | hg
  · rw [key a hl]
    omega
  · obtain ⟨r, rfl⟩ : ∃ r, a = r + 9223372036854775808 := ⟨a - 9223372036854775808, by omega⟩
    have hr : r < 9223372036854775808 := by omega
    rw [← key r hr, Nat.xor_assoc, Nat.xor_self, Nat.xor_zero, key r hr]
    omega

end Go.Proofs.YtlmmgjgkmbmgpaaGreatDoor

/- The reference's encoding: number, text. -/
namespace Go.Proofs.YtlmmgjgkmbmgpaaGreatDoor
open Go.RowKit

theorem str1 (z : Int) (w : World) (h : Tryz.prog.underlying 5 = some (.int .u8)) : (convert 178 9 (.slice (some ⟨w.heap.size, 0, none⟩) 1 1)).run Tryz.prog (w.alloc (Obj.cells #[.int .u8 z] 5)) = .ok (.string (strOfNums [z])) (w.alloc (Obj.cells #[.int .u8 z] 5)) := by
  refine run_convert_bytes_arg (P := Tryz.prog) _ 178 5 Tryz.underlying178 h w.heap.size 0 1 1 [z] rfl (fun i hi => ?_) 9 Tryz.underlying9
  obtain rfl : i = 0 := by omega
  exact (Blk.new w 5 #[.int .u8 z]).cell 0

theorem shr64_nat' (a s : Nat) : (a : Int) / 2 ^ s = ((a / 2 ^ s : Nat) : Int) := by push_cast; rfl
theorem u64_xor' (n : Int) : bits .xor .u64 (IntKind.u64.wrap n) 9223372036854775808 = ((U64 n : Nat) : Int) := by
  rw [IntKind.wrap_u64]
  have ha : (n % 18446744073709551616).toNat < 18446744073709551616 := by omega
  have e1 : (BitVec.ofInt 64 (n % 18446744073709551616)).toNat = (n % 18446744073709551616).toNat := by
    rw [BitVec.toNat_ofInt]
    omega
  have e2 : (BitVec.ofInt 64 (9223372036854775808 : Int)).toNat = 9223372036854775808 := by decide
  show IntKind.u64.wrap ((BitVec.ofInt 64 (n % 18446744073709551616) ^^^ BitVec.ofInt 64 (9223372036854775808 : Int)).toNat : Int) = _
  rw [BitVec.toNat_xor, e1, e2, xor_top _ ha, IntKind.wrap_u64]
  unfold U64
  omega
theorem num8_mod' (n : Int) (s : Nat) : ((U64 n / 2 ^ s : Nat) : Int) % 256 = num8 n s := by unfold num8; omega

set_option maxRecDepth 100000 in
set_option maxHeartbeats 1000000 in
theorem rnumber_any (n : Int) (w : World) :
    Calls Tryz.prog 166 #[.int .i64 n] w fun e w' => e = .returned (.string (strOfNums (nums n))) ∧ Below w.heap.size w w' := by
  obtain ⟨U, hU⟩ : ∃ U, U64 n = U := ⟨_, rfl⟩
  have hux := u64_xor' n
  rw [hU] at hux
  have hub : U < 18446744073709551616 := by rw [← hU]; unfold U64; omega
  have HU := Lib.hid hU
  clear hU
  go_enter Tryz.func166, Tryz.ntmps166
  go_upto_region 4 with fail
  clear hux
  go_loopw [4, 5] (fun u4 u5 wr => ∃ i : Nat, i ≤ 8 ∧ u5 = .int .i64 i ∧ u4 = .string (strOfNums (numsTo n i)) ∧ Below w.heap.size w wr) (fun _ u5 _ => 9 - (intOf u5).toNat)
  case atStart => exact ⟨0, Nat.zero_le _, rfl, rfl, Below.refl _ _⟩
  case round =>
    obtain ⟨i, hi, rfl, rfl, hb⟩ := hrel
    have HB := Lib.hid hb
    have i0 : (0 : Int) ≤ (i : Int) := by omega
    by_cases hlt : i < 8
    · obtain ⟨s, hs⟩ : ∃ s : Nat, s = 56 - 8 * i := ⟨_, rfl⟩
      have hs2 : (56 - 8 * (i : Int)) = (s : Int) := by omega
      have s0 : (0 : Int) ≤ (s : Int) := by omega
      have s1 : (s : Int) ≤ 56 := by omega
      have hq := shr64_nat' U s
      obtain ⟨q, hqe⟩ : ∃ q, q = U / 2 ^ s := ⟨_, rfl⟩
      rw [← hqe] at hq
      have hz : (q : Int) % 256 = num8 n s := by rw [hqe, ← HU.out]; exact num8_mod' n s
      obtain ⟨z, hze⟩ : ∃ z, num8 n s = z := ⟨_, rfl⟩
      rw [hze] at hz
      have HS := Lib.hid hs
      have HZE := Lib.hid hze
      have hcv := str1 z wr Tryz.underlying5
      obtain ⟨S, hS⟩ : ∃ S, S = strOfNums (numsTo n i) := ⟨_, rfl⟩
      obtain ⟨Z, hZ⟩ : ∃ Z, Z = strOfNums [z] := ⟨_, rfl⟩
      rw [← hZ] at hcv
      rw [← hS]
      have hz1 : S.size + Z.size ≤ 9223372036854775807 := by rw [hS, hZ, strOfNums_size, strOfNums_size, numsTo_len]; simp; omega
      have hz2 : ¬ (9223372036854775807 < S.size + Z.size) := by omega
      have HSS := Lib.hid hS
      have HZZ := Lib.hid hZ
      clear hs hqe hze hS hZ hb
      go_wp2_with fail
      go_roundw
      case rel => exact ⟨i + 1, by omega, by go_num, by rw [numsTo_succ, strOfNums_append, ← HS.out, HZE.out, ← HSS.out, ← HZZ.out], HB.out.alloc HB.out.size _⟩
      case measure => simp [intOf]; omega
    · obtain rfl : i = 8 := by omega
      clear hb
      go_wp2_with fail
      go_ret
      exact ⟨rfl, HB.out⟩

theorem extract_one (t : ByteArray) (i : Nat) (h : i < t.size) : t.extract i (i + 1) = strOfNums [(t[i].toNat : Int)] := by
  apply ByteArray.ext
  apply Array.ext'
  have e : t.data.toList[i]? = some t[i] := by rw [List.getElem?_eq_getElem (by simpa using h)]; rfl
  simp only [ByteArray.data_extract, Array.toList_extract, strOfNums, List.map_cons, List.map_nil, List.toList_toArray]
  rw [List.extract_eq_take_drop, List.drop_eq_getElem?_toList_append, e]
  simp

set_option maxRecDepth 100000 in
set_option maxHeartbeats 1000000 in
theorem rtext_any (t : ByteArray) (w : World) (ht : t.size ≤ 4096) :
    Calls Tryz.prog 167 #[.string t] w fun e w' => e = .returned (.string (strOfNums (textN t.data.toList ++ [0, 0]))) ∧ Below w.heap.size w w' := by
  go_enter Tryz.func167, Tryz.ntmps167
  go_upto_region 3 with fail
  go_loopw [3, 4] (fun u3 u4 wr => ∃ i : Nat, i ≤ t.size ∧ u4 = .int .i64 i ∧ u3 = .string (strOfNums (textN (t.data.toList.take i))) ∧ wr = w) (fun _ u4 _ => t.size - (intOf u4).toNat)
  case atStart => exact ⟨0, Nat.zero_le _, rfl, rfl, rfl⟩
  case round =>
    obtain ⟨i, hi, rfl, rfl, rfl⟩ := hrel
    have hlen : (textN (t.data.toList.take i)).length ≤ 8192 := by
      have h2 := textN_len (t.data.toList.take i)
      have h3 : (t.data.toList.take i).length ≤ i := List.length_take_le _ _
      omega
    obtain ⟨S, hS⟩ : ∃ S, S = strOfNums (textN (t.data.toList.take i)) := ⟨_, rfl⟩
    rw [← hS]
    have hSz : S.size ≤ 8192 := by rw [hS, strOfNums_size]; exact hlen
    have HSS := Lib.hid hS
    clear hS hlen
    have i0 : (0 : Int) ≤ (i : Int) := by omega
    have tz : (t.size : Int) ≤ 4096 := by omega
    by_cases hlt : i < t.size
    · have hx := t[i].toNat_lt
      have i1 : (i : Int) < (t.size : Int) := by omega
      have hex := extract_one t i hlt
      obtain ⟨Z, hZ⟩ : ∃ Z, Z = strOfNums [(t[i].toNat : Int)] := ⟨_, rfl⟩
      rw [← hZ] at hex
      have hZs : Z.size = 1 := by rw [hZ, strOfNums_size]; rfl
      have hz2 : ¬ (9223372036854775807 < S.size + Z.size) := by omega
      have hz3 : ¬ (9223372036854775807 < S.size + Z.size + 1) := by omega
      have HZ := Lib.hid hZ
      clear hZ hZs
      have HSN := Lib.hid (textN_snoc (bytes_at t i hlt))
      cases hd : ((t[i].toNat : Int) == 0)
      · have HB : Hid (byteN t[i] = [(t[i].toNat : Int)]) := by
          have hne : ¬ t[i] = 0 := fun e => by rw [e] at hd; exact absurd hd (by decide)
          unfold Hid byteN
          rw [if_neg hne]
        have HSB : Hid (textN (t.data.toList.take (i + 1)) = textN (t.data.toList.take i) ++ [(t[i].toNat : Int)]) := HSN.out.trans (congrArg (fun z => textN (t.data.toList.take i) ++ z) HB.out)
        go_wp2_with fail
        go_roundw
        case rel => exact ⟨i + 1, by omega, by go_num, by rw [HSB.out, strOfNums_append, ← HSS.out, ← HZ.out], trivial⟩
        case measure => simp [intOf]; omega
      · have HB : Hid (byteN t[i] = [(t[i].toNat : Int), 255]) := by
          have e : t[i] = 0 := by
            apply UInt8.toNat_inj.1
            have : (t[i].toNat : Int) = 0 := by simpa using hd
            show t[i].toNat = 0
            omega
          rw [e]
          rfl
        have HSB : Hid (textN (t.data.toList.take (i + 1)) = textN (t.data.toList.take i) ++ [(t[i].toNat : Int)] ++ [255]) := HSN.out.trans ((congrArg (fun z => textN (t.data.toList.take i) ++ z) HB.out).trans (by simp))
        go_wp2_with fail
        go_roundw
        case rel => exact ⟨i + 1, by omega, by go_num, by rw [HSB.out, strOfNums_append, strOfNums_append, ← HSS.out, ← HZ.out]; rfl, trivial⟩
        case measure => simp [intOf]; omega
    · obtain rfl : i = t.size := by omega
      have HTK : Hid (t.data.toList.take t.size = t.data.toList) := List.take_of_length_le (by rw [dsize]; exact Nat.le_refl _)
      have hz2 : ¬ (9223372036854775807 < S.size + 2) := by omega
      go_wp2_with fail
      go_ret
      exact ⟨by rw [strOfNums_append, ← HTK.out, ← HSS.out]; rfl, Below.refl _ _⟩

end Go.Proofs.YtlmmgjgkmbmgpaaGreatDoor

/- Small contracts for the first checks of the layers shardkey and router: After at two keys, sorting and compacting one range. -/
namespace Go.Proofs.YtlmmgjgkmbmgpaaGreatDoor
open Go.RowKit

def key5 : ByteArray := ⟨#[3, 128, 0, 0, 0, 0, 0, 0, 5]⟩
def key6 : ByteArray := ⟨#[3, 128, 0, 0, 0, 0, 0, 0, 6]⟩
def key10 : ByteArray := ⟨#[3, 128, 0, 0, 0, 0, 0, 0, 10]⟩
def key11 : ByteArray := ⟨#[3, 128, 0, 0, 0, 0, 0, 0, 11]⟩

set_option maxHeartbeats 1000000 in
theorem isort1_any (A : Option Addr) (c : Nat) (f : Value) (w : World) :
    Calls Tryz.prog 207 #[.slice A 1 c, .int .i64 0, .int .i64 1, f] w fun e w' => e = .returned (.tuple #[]) ∧ w' = w := by
  go_enter Tryz.func207, Tryz.ntmps207
  go_wp2_with fail
  go_loopw [8, 9] (fun v8 _ wr => v8 = .int .i64 1 ∧ wr = w) (fun _ _ _ => 0)
  case atStart => exact ⟨rfl, rfl⟩
  case round =>
    obtain ⟨rfl, rfl⟩ := hrel
    go_wp2_with fail
    go_end0
    exact ⟨rfl, rfl⟩

set_option maxHeartbeats 1000000 in
theorem stable1_any (A : Option Addr) (c : Nat) (f : Value) (w : World) :
    Calls Tryz.prog 184 #[.slice A 1 c, .int .i64 1, f] w fun e w' => e = .returned (.tuple #[]) ∧ w' = w := by
  go_enter Tryz.func184, Tryz.ntmps184
  go_wp2_with fail
  go_loop [7, 8] (fun v7 v8 => v7 = .int .i64 0 ∧ v8 = .int .i64 20) (fun _ _ => 0)
  case atStart => exact ⟨rfl, rfl⟩
  case round =>
    obtain ⟨rfl, rfl⟩ := hrel
    go_wp2_with fail
    refine (isort1_any _ _ _ _).mono ?_
    rintro e w1 ⟨rfl, rfl⟩
    go_wp2_with fail
    go_loop [6, 7, 8, 9] (fun v6 _ _ _ => v6 = .int .i64 20) (fun _ _ _ _ => 0)
    case atStart => rfl
    case round =>
      subst hrel
      go_wp2_with fail
      go_end0
      exact ⟨rfl, rfl⟩

set_option maxHeartbeats 1000000 in
theorem sstable1_any (A : Option Addr) (c : Nat) (f : Value) (w : World) :
    Calls Tryz.prog 157 #[.slice A 1 c, f] w fun e w' => e = .returned (.tuple #[]) ∧ w' = w := by
  go_enter Tryz.func157, Tryz.ntmps157
  go_wp2_with fail
  refine (stable1_any _ _ _ _).mono ?_
  rintro e w1 ⟨rfl, rfl⟩
  go_wp2_with fail
  go_end0
  exact ⟨rfl, rfl⟩

set_option maxHeartbeats 1000000 in
theorem compact1_any (A : Option Addr) (c : Nat) (w : World) :
    Calls Tryz.prog 161 #[.slice A 1 c] w fun e w' => e = .returned (.slice A 1 c) ∧ w' = w := by
  go_enter Tryz.func161, Tryz.ntmps161
  go_wp2_with fail
  go_ret
  exact ⟨rfl, rfl⟩

set_option maxRecDepth 100000 in
set_option maxHeartbeats 1000000 in
theorem after9_any (s : ByteArray) (x : Nat) (w : World) (hs : s.size = 9) (hx : ((s[8]'(by omega)).toNat : Int) = (x : Int)) (hx2 : x < 255) :
    Calls Tryz.prog 156 #[.string s] w fun e w' => e = .returned (.tuple #[.string (s.extract 0 8 ++ strOfNums [((x + 1 : Nat) : Int)]), .bool true]) ∧ Below w.heap.size w w' := by
  have h1 : ((x : Int) == 255) = false := by simp; omega
  have h2 : ((x : Int) + 1) % 256 = ((x + 1 : Nat) : Int) := by omega
  obtain ⟨z, hz⟩ : ∃ z : Int, z = ((x + 1 : Nat) : Int) := ⟨_, rfl⟩
  have hzx : z = (x : Int) + 1 := by omega
  have hcv : (convert 178 9 (.slice (some ⟨w.heap.size, 0, none⟩) 1 1)).run Tryz.prog ((w.alloc (Obj.cells #[.int .u8 ((x : Int) + 1)] 5)).drew) = .ok (.string (strOfNums [z])) ((w.alloc (Obj.cells #[.int .u8 ((x : Int) + 1)] 5)).drew) := by
    rw [← hzx]
    refine run_convert_bytes_arg (P := Tryz.prog) _ 178 5 Tryz.underlying178 Tryz.underlying5 w.heap.size 0 1 1 [z] rfl (fun i hi => ?_) 9 Tryz.underlying9
    obtain rfl : i = 0 := by omega
    exact (Blk.new w 5 #[.int .u8 z]).drew.cell 0
  rw [← hz]
  obtain ⟨Z, hZ⟩ : ∃ Z, Z = strOfNums [z] := ⟨_, rfl⟩
  rw [← hZ] at hcv ⊢
  have hZs : Z.size = 1 := by rw [hZ, strOfNums_size]; rfl
  have HZ := Lib.hid hZ
  have HZZ := Lib.hid hz
  clear hz hZ h2 hzx
  go_enter Tryz.func156, Tryz.ntmps156
  go_upto_region 2 with fail
  go_loopw [4] (fun v wr => v = .int .i64 9 ∧ wr = w) (fun _ _ => 0)
  case atStart => exact ⟨rfl, rfl⟩
  case round =>
    obtain ⟨rfl, rfl⟩ := hrel
    go_wp2_with fail
    go_region
    all_goals
      go_wp2_with fail
      go_ret2
      exact ⟨rfl, ((Below.refl _ _).alloc (Nat.le_refl _) _).drew⟩

end Go.Proofs.YtlmmgjgkmbmgpaaGreatDoor

/- Bytes that are appended to a row of the call's own: keyenc.allowed and keyenc.appendValue. -/
namespace Go.Proofs.YtlmmgjgkmbmgpaaGreatDoor
open Go.RowKit

theorem info_u8 : (Tryz.prog.info? 5).map (fun i => (i.zero, i.size, i.bytes)) = some (some (.int .u8 0), 1, 1) := by kernel_rfl
/-- what has been appended: the row, what has changed in memory -/
def AppOk (base : Nat) (v : Value) (l : List Int) (w : World) (e : Ending) (w' : World) : Prop :=
  ∃ v' : Value, e = .returned v' ∧ w'.ownsRow base 5 1 v' l.length (bytesC l) ∧ w.grownBy w' v.ownBlock ∧ (v'.ownBlock = v.ownBlock ∨ ∃ g, v'.ownBlock = some g ∧ w.heap.size ≤ g)
/-- the walk of appendValue: the value's block, the row, what has changed -/
structure ApI (w : World) (c : VC) (base : Nat) (v0 v : Value) (n : Nat) (l : List Int) (wr : World) : Prop where
  b0 : Blk wr w.heap.size 46 c.arr
  own : wr.ownsRow base 5 1 v n (bytesC l)
  ln : n = l.length
  gb : w.grownBy wr v0.ownBlock
  sz : w.heap.size + 1 ≤ wr.heap.size
  old : ∀ g, v0.ownBlock = some g → base ≤ g ∧ g < w.heap.size
  blk : v.ownBlock = v0.ownBlock ∨ ∃ g, v.ownBlock = some g ∧ w.heap.size + 1 ≤ g
  ba : base ≤ w.heap.size
section
variable {w wr w' : World} {c : VC} {base n n' : Nat} {v0 v v' : Value} {l l' : List Int}
theorem ApI.below (h : ApI w c base v0 v n l wr) : Below base w wr := (Below.refl _ _).grown h.gb h.ba fun g hg => (h.old g hg).1
theorem ApI.ba2 (h : ApI w c base v0 v n l wr) : base ≤ wr.heap.size := by have := h.ba; have := h.sz; omega
theorem ApI.nrow (h : ApI w c base v0 v n l wr) : v.ownBlock ≠ some w.heap.size := by
  intro e
  rcases h.blk with h1 | ⟨g, h1, h2⟩
  · rw [h1] at e
    have := (h.old _ e).2
    omega
  · rw [h1] at e
    injection e with e
    omega
theorem ApI.step (h : ApI w c base v0 v n l wr) (hb : Below wr.heap.size wr w') : ApI w c base v0 v n l w' := by
  have hs := hb.size
  have h0 := h.sz
  refine ⟨h.b0.step hb, own_step h.own hb, h.ln, ⟨?_, ?_, ?_, ?_, fun k hk hne => ?_⟩, by omega, h.old, h.blk, h.ba⟩
  · rw [hb.os]; exact h.gb.os
  · rw [hb.tape]; exact h.gb.tape
  · rw [hb.output]; exact h.gb.output
  · have := h.gb.size; omega
  · rw [hb.block k (by omega)]; exact h.gb.block k hk hne
theorem ApI.grow (h : ApI w c base v0 v n l wr) (hg : wr.grownBy w' v.ownBlock) (hv : v'.ownBlock = v.ownBlock ∨ ∃ g, v'.ownBlock = some g ∧ wr.heap.size ≤ g) (hn : n' = l'.length) (ho : w'.ownsRow base 5 1 v' n' (bytesC l')) : ApI w c base v0 v' n' l' w' := by
  have hs := hg.size
  have h0 := h.sz
  refine ⟨(hg.block _ (by omega) (fun e => h.nrow e.symm)).trans h.b0, ho, hn, ⟨?_, ?_, ?_, by omega, fun k hk hne => ?_⟩, by omega, h.old, ?_, h.ba⟩
  · rw [hg.os]; exact h.gb.os
  · rw [hg.tape]; exact h.gb.tape
  · rw [hg.output]; exact h.gb.output
  · rw [hg.block k (by omega) (fun e => ?_)]
    · exact h.gb.block k hk hne
    · rcases h.blk with h1 | ⟨g, h1, h2⟩
      · exact hne (by rw [← h1]; exact e)
      · rw [h1] at e
        injection e with e
        omega
  · rcases hv with h1 | ⟨g, h1, h2⟩
    · rw [h1]; exact h.blk
    · exact .inr ⟨g, h1, by omega⟩
/-- an append's result -/
theorem ApI.app (h : ApI w c base v0 v n l wr) {o : Obj} {m : Nat} {xs : List Int} (hm : m = xs.length) (hn : n' = n + m) (ho : w'.ownsRow base 5 1 v' (n + m) (bytesC l ++ bytesC xs)) (hg : (wr.alloc o).grownBy w' v.ownBlock) (hat : v'.ownBlock = v.ownBlock ∨ v'.ownBlock = some (wr.alloc o).heap.size) : ApI w c base v0 v' n' (l ++ xs) w' := by
  subst hn
  refine (h.step ((Below.refl _ _).alloc (Nat.le_refl _) o)).grow hg (hat.imp id fun e => ⟨_, e, Nat.le_refl _⟩) (by rw [List.length_append, h.ln, hm]) ?_
  rw [bytesC_app]
  exact ho
/-- the same with nothing laid ahead -/
theorem ApI.app0 (h : ApI w c base v0 v n l wr) {m : Nat} {xs : List Int} (hm : m = xs.length) (hn : n' = n + m) (ho : w'.ownsRow base 5 1 v' (n + m) (bytesC l ++ bytesC xs)) (hg : wr.grownBy w' v.ownBlock) (hat : v'.ownBlock = v.ownBlock ∨ v'.ownBlock = some wr.heap.size) : ApI w c base v0 v' n' (l ++ xs) w' := by
  subst hn
  refine h.grow hg (hat.imp id fun e => ⟨_, e, Nat.le_refl _⟩) (by rw [List.length_append, h.ln, hm]) ?_
  rw [bytesC_app]
  exact ho
/-- a call -/
theorem ApI.call (h : ApI w c base v0 v n l wr) {e : Ending} (ha : AppOk base v l' wr e w') : ∃ v', e = .returned v' ∧ ApI w c base v0 v' l'.length l' w' := by
  obtain ⟨v', he, ho, hg, hb⟩ := ha
  exact ⟨v', he, h.grow hg hb rfl ho⟩
theorem ApI.done (h : ApI w c base v0 v n l wr) : AppOk base v0 l w (.returned v) wr := ⟨v, rfl, by rw [← h.ln]; exact h.own, h.gb, h.blk.imp id fun ⟨g, h1, h2⟩ => ⟨g, h1, by omega⟩⟩
theorem ApI.start (hb : base ≤ w.heap.size) (hn : n = l.length) (ho : w.ownsRow base 5 1 v0 n (bytesC l)) : ApI w c base v0 v0 n l (w.alloc (Obj.cells c.arr 46)) := by
  have h1 : Below w.heap.size w (w.alloc (Obj.cells c.arr 46)) := (Below.refl _ _).alloc (Nat.le_refl _) _
  exact ⟨Blk.new_at rfl, own_step ho h1, hn, ⟨h1.os, h1.tape, h1.output, h1.size, fun k hk _ => h1.block k hk⟩, by simp, fun g hg => ⟨own_ge ho g hg, own_lt ho hg⟩, .inl rfl, hb⟩
end

/-- one byte that is laid -/
theorem reads1 (w : World) (z : Int) : Reads (w.alloc (Obj.cells #[.int .u8 z] 5)) (w.heap.size + 1) 1 (some ⟨w.heap.size, 0, none⟩) 1 (bytesC [z]) :=
  ⟨rfl, fun _ => ⟨_, rfl, by show w.heap.size < w.heap.size + 1; omega, fun j' u hu => news_at w 5 (bytesC [z]) j' u hu⟩⟩
theorem reads2 (w : World) (y z : Int) : Reads (w.alloc (Obj.cells #[.int .u8 y, .int .u8 z] 5)) (w.heap.size + 1) 1 (some ⟨w.heap.size, 0, none⟩) 2 (bytesC [y, z]) :=
  ⟨rfl, fun _ => ⟨_, rfl, by show w.heap.size < w.heap.size + 1; omega, fun j' u hu => news_at w 5 (bytesC [y, z]) j' u hu⟩⟩
theorem bytesC_one (l : List Int) : ∀ u ∈ bytesC l, u.oneCell' = true := by
  intro u hu
  simp only [bytesC, List.mem_map] at hu
  obtain ⟨z, _, rfl⟩ := hu
  rfl

/-- where the row lies behind 'append(b, s...)' -/
theorem append_str_blk {P : Program} (w : World) (base : Nat) (t u ty e : TypeId) (i : TypeInfo) (ht : P.underlying t = some (.slice e)) (hu : P.underlying u = some .string) (hi : P.info? e = some i) (hz : i.zero = some (.int .u8 0))
    (hsize : i.size = 1) (hby : i.bytes = 1) (v : Value) (n : Nat) (xs : List Value) (hown : w.ownsRow base e 1 v n xs) (s : ByteArray) (h63 : n + s.size ≤ maxLen) (hbytes : n + s.size ≤ 140737488355328)
    {v' : Value} {w' : World} (hrun : (Builtin.append_ #[t, u] ty #[v, .string s]).run P w = .ok v' w') (hnil : v' = .slice none 0 0 ↔ v = .slice none 0 0 ∧ s.size = 0) : v'.ownBlock = v.ownBlock ∨ v'.ownBlock = some w.heap.size := by
  have hsmall : n + s.size ≤ 9223372036854775807 := by simp only [maxLen] at h63; omega
  rcases hown.2 with ⟨rfl, rfl⟩ | ⟨g, cap, cur, rfl, hbg, hg, hnc, hcm, hcs, htake⟩
  · by_cases hm : s.size = 0
    · rw [hnil.2 ⟨rfl, hm⟩]
      exact .inl rfl
    · have hr := run_append_nil_string (P := P) w t u ty e i (.int .u8 0) ht hu hi hz s (by omega) (by omega) (by rw [hby]; omega)
      rw [hr] at hrun
      cases hrun
      exact .inr rfl
  · by_cases hroom : n + s.size ≤ cap
    · have hcs' : cur.size = cap := by simpa using hcs
      have hr := Lib.run_append_room_string (P := P) w t u ty e i ht hu hi hsize g n cap cur hg s hroom (by omega)
      rw [hr] at hrun
      cases hrun
      exact .inl rfl
    · have hxl : xs.length = n := by simpa using hown.1
      have hr := Lib.run_append_grow_string (P := P) w t u ty e i (.int .u8 0) ht hu hi hz ⟨g, 0, none⟩ n cap xs (by rw [hsize]; simpa using hxl) (hown.cells (g := g) rfl) s (by omega) (by omega) (by rw [hby]; exact growslice_fits (by omega) (by omega))
      rw [hr] at hrun
      cases hrun
      exact .inr rfl
theorem wpList_append_str {P : Program} {w : World} {ops : Array Oper} {rest : List Oper} {o : Oper} {a : Act} {Q : Exit → Act → World → Prop} (hgd : o.guard = none) (sl x : Operand) (t u : TypeId)
    (ho : o.op = .call { callee := .builtin .append, args := #[sl, x], argTypes := #[t, u] })
    (base : Nat) (e : TypeId) (i : TypeInfo) (ht : P.underlying t = some (.slice e)) (hu : P.underlying u = some .string) (hi : P.info? e = some i) (hz : i.zero = some (.int .u8 0))
    (hsize : i.size = 1) (hby : i.bytes = 1)
    (v : Value) (n : Nat) (xs : List Value) (hs : a.eval sl = v) (hown : w.ownsRow base e 1 v n xs) (s : ByteArray) (hx : a.eval x = .string s)
    (h63 : n + s.size ≤ maxLen) (hbytes : n + s.size ≤ 140737488355328) (hbase : base ≤ w.heap.size)
    (h : ∀ v' w', w'.ownsRow base e 1 v' (n + s.size) (xs ++ Lib.strCells s) → w.grownBy w' v.ownBlock → (v'.ownBlock = v.ownBlock ∨ v'.ownBlock = some w.heap.size) → wpList P ops Q rest (a.put o.dst v') w') : wpList P ops Q (o :: rest) a w := by
  refine wpList_plain hgd fun K hK => ?_
  obtain ⟨v', w', hr, h2, h3, h4⟩ := Lib.run_append_own_string (P := P) w base t u o.type e i ht hu hi hz hsize hby v n xs hown s h63 hbytes hbase
  have h5 := append_str_blk w base t u o.type e i ht hu hi hz hsize hby v n xs hown s h63 hbytes hr h4
  unfold Oper.wp execOp
  simp only [ho, resolve, invoke, builtin, Sem.run_bind, Sem.run_pure, Result.andThen_ok, List.map_toArray, List.map_cons, List.map_nil, hs, hx, hr]
  exact hK _ _ (h v' w' h2 h3 h5)
theorem strCells_eq (s : ByteArray) : Lib.strCells s = bytesC (strN s) := by
  unfold Lib.strCells bytesC strN
  rw [List.map_map]
  rfl

end Go.Proofs.YtlmmgjgkmbmgpaaGreatDoor
