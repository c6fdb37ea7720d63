/- Parts of the proof, joined: ValName, ValSoundPure, ValOrder, ValFind, ValMem, ValClone, ValGet, ValList. -/
import Derived.Test.YtlmmgjgkmbmgpaaGreatDoorEb1
import Derived.Lib.ValidU
import Derived.Deep.RegionHeld3
/- Names: value.isName, and the reference's Name and wide. (Printed by gen_name.py.) -/
namespace Go.Proofs.YtlmmgjgkmbmgpaaGreatDoor
open Go.RowKit

def okB (b : UInt8) : Bool := decide (33 ≤ b.toNat) && decide (b.toNat ≤ 126) && !(b.toNat == 46)
def okW (b : UInt8) : Bool := decide (32 ≤ b.toNat) && decide (b.toNat ≤ 126)
/-- a name -/
def nameB (s : ByteArray) : Bool := decide (1 ≤ s.size) && decide (s.size ≤ 32) && !(s.data.toList.head?.map UInt8.toNat == some 36) && s.data.toList.all okB
/-- a name of a well-formed value -/
def wideB (s : ByteArray) : Bool := decide (1 ≤ s.size) && decide (s.size ≤ 128) && s.data.toList.all okW
theorem bytes_at (s : ByteArray) (i : Nat) (h : i < s.size) : s.data.toList[i]? = some s[i] := by
  rw [List.getElem?_eq_getElem (by simpa using h)]
  rfl
theorem all_next {p : UInt8 → Bool} {s : ByteArray} {i : Nat} (h : i < s.size) (ha : (s.data.toList.take i).all p = true) (hp : p s[i] = true) : (s.data.toList.take (i + 1)).all p = true := by
  rw [take_snoc' (bytes_at s i h), List.all_append, ha]
  simp [hp]
theorem all_not {p : UInt8 → Bool} {s : ByteArray} {i : Nat} (h : i < s.size) (hp : p s[i] = false) : s.data.toList.all p = false := by
  rw [List.all_eq_false]
  exact ⟨s[i], List.mem_of_getElem? (bytes_at s i h), by simp [hp]⟩
theorem all_end {p : UInt8 → Bool} {s : ByteArray} {i : Nat} (h : s.size ≤ i) (ha : (s.data.toList.take i).all p = true) : s.data.toList.all p = true := by
  rwa [List.take_of_length_le (by simpa using h)] at ha
theorem head_of (s : ByteArray) (h : 0 < s.size) : s.data.toList.head?.map UInt8.toNat = some s[0].toNat := by
  rw [List.head?_eq_getElem?, bytes_at s 0 h]
  rfl
theorem all_zero {p : UInt8 → Bool} {l : List UInt8} : (l.take 0).all p = true := by simp

set_option maxHeartbeats 1000000 in
theorem isName_any (s : ByteArray) (w : World) : Calls Tryz.prog 200 #[.string s] w fun e w' => e = .returned (.bool (nameB s)) ∧ w' = w := by
  by_cases h1 : s.size < 1
  · have HV : Hid (nameB s = false) := by unfold Hid nameB; rw [decide_eq_false (by omega)]; rfl
    go_enter Tryz.func200, Tryz.ntmps200
    go_wp2_with fail
    go_ret
    exact ⟨by rw [HV.out]; rfl, rfl⟩
  by_cases h2 : 32 < s.size
  · have HV : Hid (nameB s = false) := by unfold Hid nameB; rw [decide_eq_true (by omega), decide_eq_false (by omega)]; rfl
    go_enter Tryz.func200, Tryz.ntmps200
    go_wp2_with fail
    go_ret
    exact ⟨by rw [HV.out]; rfl, rfl⟩
  cases h3 : ((s[0].toNat : Int) == 36)
  rotate_left
  · have HV : Hid (nameB s = false) := by
      have : s[0].toNat = 36 := by simp at h3; omega
      unfold Hid nameB
      rw [decide_eq_true (by omega), decide_eq_true (by omega), head_of s (by omega), this]
      rfl
    go_enter Tryz.func200, Tryz.ntmps200
    go_wp2_with fail
    go_ret
    exact ⟨by rw [HV.out]; rfl, rfl⟩
  have HA : Hid (nameB s = s.data.toList.all okB) := by
    have : ¬ s[0].toNat = 36 := by simp at h3; omega
    unfold Hid nameB
    rw [decide_eq_true (by omega), decide_eq_true (by omega), head_of s (by omega)]
    simp [this]
  go_enter Tryz.func200, Tryz.ntmps200
  go_wp2_with fail
  go_loopw [19] (fun v wr => ∃ i : Nat, i ≤ s.size ∧ v = .int .i64 i ∧ (s.data.toList.take i).all okB = true ∧ wr = w) (fun v _ => s.size - (intOf v).toNat)
  case atStart => exact ⟨0, Nat.zero_le _, rfl, all_zero, rfl⟩
  case round =>
    obtain ⟨i, hi, rfl, ha, rfl⟩ := hrel
    have HL := Lib.hid ha
    clear ha
    by_cases hlt : i < s.size
    · have hx := s[i].toNat_lt
      by_cases hb : (s[i].toNat : Int) < 33
      · have HV : Hid (nameB s = false) := by rw [Hid, HA.out]; exact all_not hlt (by unfold okB; rw [decide_eq_false (by omega)]; rfl)
        go_wp2_with fail
        go_ret
        exact ⟨by rw [HV.out]; rfl, rfl⟩
      by_cases hc : 126 < (s[i].toNat : Int)
      · have HV : Hid (nameB s = false) := by rw [Hid, HA.out]; exact all_not hlt (by unfold okB; rw [decide_eq_true (by omega), decide_eq_false (by omega)]; rfl)
        go_wp2_with fail
        go_ret
        exact ⟨by rw [HV.out]; rfl, rfl⟩
      cases hd : ((s[i].toNat : Int) == 46)
      rotate_left
      · have HV : Hid (nameB s = false) := by
          have : s[i].toNat = 46 := by simp at hd; omega
          rw [Hid, HA.out]
          exact all_not hlt (by unfold okB; rw [this]; rfl)
        go_wp2_with fail
        go_ret
        exact ⟨by rw [HV.out]; rfl, rfl⟩
      have HN : Hid ((s.data.toList.take (i + 1)).all okB = true) := by
        have : ¬ s[i].toNat = 46 := by simp at hd; omega
        exact all_next hlt HL.out (by unfold okB; rw [decide_eq_true (by omega), decide_eq_true (by omega)]; simp [this])
      go_wp2_with fail
      go_roundw
      case rel => exact ⟨i + 1, by omega, by go_num, HN.out, trivial⟩
      case measure => simp [intOf]; omega
    · have HV : Hid (nameB s = true) := by rw [Hid, HA.out]; exact all_end (by omega) HL.out
      go_wp2_with fail
      go_ret
      exact ⟨by rw [HV.out]; rfl, rfl⟩

set_option maxHeartbeats 1000000 in
theorem rname_any (s : ByteArray) (w : World) : Calls Tryz.prog 33 #[.string s] w fun e w' => e = .returned (.bool (nameB s)) ∧ w' = w := by
  by_cases h1 : s.size < 1
  · have HV : Hid (nameB s = false) := by unfold Hid nameB; rw [decide_eq_false (by omega)]; rfl
    go_enter Tryz.func33, Tryz.ntmps33
    go_wp2_with fail
    go_ret
    exact ⟨by rw [HV.out]; rfl, rfl⟩
  by_cases h2 : 32 < s.size
  · have HV : Hid (nameB s = false) := by unfold Hid nameB; rw [decide_eq_true (by omega), decide_eq_false (by omega)]; rfl
    go_enter Tryz.func33, Tryz.ntmps33
    go_wp2_with fail
    go_ret
    exact ⟨by rw [HV.out]; rfl, rfl⟩
  cases h3 : ((s[0].toNat : Int) == 36)
  rotate_left
  · have HV : Hid (nameB s = false) := by
      have : s[0].toNat = 36 := by simp at h3; omega
      unfold Hid nameB
      rw [decide_eq_true (by omega), decide_eq_true (by omega), head_of s (by omega), this]
      rfl
    go_enter Tryz.func33, Tryz.ntmps33
    go_wp2_with fail
    go_ret
    exact ⟨by rw [HV.out]; rfl, rfl⟩
  have HA : Hid (nameB s = s.data.toList.all okB) := by
    have : ¬ s[0].toNat = 36 := by simp at h3; omega
    unfold Hid nameB
    rw [decide_eq_true (by omega), decide_eq_true (by omega), head_of s (by omega)]
    simp [this]
  go_enter Tryz.func33, Tryz.ntmps33
  go_wp2_with fail
  go_loopw [3] (fun v wr => ∃ i : Nat, i ≤ s.size ∧ v = .int .i64 i ∧ (s.data.toList.take i).all okB = true ∧ wr = w) (fun v _ => s.size - (intOf v).toNat)
  case atStart => exact ⟨0, Nat.zero_le _, rfl, all_zero, rfl⟩
  case round =>
    obtain ⟨i, hi, rfl, ha, rfl⟩ := hrel
    have HL := Lib.hid ha
    clear ha
    by_cases hlt : i < s.size
    · have hx := s[i].toNat_lt
      by_cases hb : (s[i].toNat : Int) < 33
      · have HV : Hid (nameB s = false) := by rw [Hid, HA.out]; exact all_not hlt (by unfold okB; rw [decide_eq_false (by omega)]; rfl)
        go_wp2_with fail
        go_ret
        exact ⟨by rw [HV.out]; rfl, rfl⟩
      by_cases hc : 126 < (s[i].toNat : Int)
      · have HV : Hid (nameB s = false) := by rw [Hid, HA.out]; exact all_not hlt (by unfold okB; rw [decide_eq_true (by omega), decide_eq_false (by omega)]; rfl)
        go_wp2_with fail
        go_ret
        exact ⟨by rw [HV.out]; rfl, rfl⟩
      cases hd : ((s[i].toNat : Int) == 46)
      rotate_left
      · have HV : Hid (nameB s = false) := by
          have : s[i].toNat = 46 := by simp at hd; omega
          rw [Hid, HA.out]
          exact all_not hlt (by unfold okB; rw [this]; rfl)
        go_wp2_with fail
        go_ret
        exact ⟨by rw [HV.out]; rfl, rfl⟩
      have HN : Hid ((s.data.toList.take (i + 1)).all okB = true) := by
        have : ¬ s[i].toNat = 46 := by simp at hd; omega
        exact all_next hlt HL.out (by unfold okB; rw [decide_eq_true (by omega), decide_eq_true (by omega)]; simp [this])
      go_wp2_with fail
      go_roundw
      case rel => exact ⟨i + 1, by omega, by go_num, HN.out, trivial⟩
      case measure => simp [intOf]; omega
    · have HV : Hid (nameB s = true) := by rw [Hid, HA.out]; exact all_end (by omega) HL.out
      go_wp2_with fail
      go_ret
      exact ⟨by rw [HV.out]; rfl, rfl⟩

end Go.Proofs.YtlmmgjgkmbmgpaaGreatDoor


/- Sound values in plain words. -/
namespace Go.Proofs.YtlmmgjgkmbmgpaaGreatDoor

def utf8B (t : ByteArray) : Bool := Lib.validD t.data.toList
/-- the conditions of a value's kind -/
def HeadP (k n : Int) (t : ByteArray) (ln dn : Nat) : Prop :=
  (k = 3 ∨ k = 9 ∨ k = 10 ∨ n = 0) ∧ (k = 4 ∨ k = 7 ∨ k = 8 ∨ t.size = 0) ∧ (k = 6 ∨ ln = 0) ∧ (k = 5 ∨ dn = 0) ∧
  (k = 1 ∨ k = 2 ∨ k = 11 ∨ k = 3 ∨ (k = 9 ∧ (n = 0 ∨ n = 1)) ∨ (k = 10 ∧ 0 ≤ n) ∨ (k = 4 ∧ t.size ≤ 4096 ∧ utf8B t = true) ∨ (k = 7 ∧ t.size ≤ 4096) ∨ (k = 8 ∧ t.size = 12) ∨ k = 6 ∨ k = 5)
/-- distinct names -/
def NamesP (nm : ByteArray → Bool) (d : List Fld) : Prop := (∀ f ∈ d, nm f.s = true) ∧ (d.map Fld.s).Nodup
mutual
def SoundV (nm : ByteArray → Bool) : Val → Prop
  | .mk k n t l d => HeadP k n t l.length d.length ∧ SoundLs nm l ∧ SoundDs nm d ∧ NamesP nm d
def SoundLs (nm : ByteArray → Bool) : List Val → Prop
  | [] => True
  | x :: r => SoundV nm x ∧ SoundLs nm r
def SoundDs (nm : ByteArray → Bool) : List Fld → Prop
  | [] => True
  | f :: r => SoundF nm f ∧ SoundDs nm r
def SoundF (nm : ByteArray → Bool) : Fld → Prop
  | .mk _ v => SoundV nm v
end
theorem SoundLs_iff (nm : ByteArray → Bool) (l : List Val) : SoundLs nm l ↔ ∀ y ∈ l, SoundV nm y := by
  induction l with
  | nil => simp [SoundLs]
  | cons x r ih => simp [SoundLs, ih]
theorem SoundF_iff (nm : ByteArray → Bool) (f : Fld) : SoundF nm f ↔ SoundV nm f.v := by cases f; simp only [SoundF]; rfl
theorem SoundDs_iff (nm : ByteArray → Bool) (d : List Fld) : SoundDs nm d ↔ ∀ f ∈ d, SoundV nm f.v := by
  induction d with
  | nil => simp [SoundDs]
  | cons x r ih => simp [SoundDs, ih, SoundF_iff]
theorem SoundV_iff (nm : ByteArray → Bool) (x : Val) : SoundV nm x ↔ HeadP x.k x.n x.t x.l.length x.d.length ∧ (∀ y ∈ x.l, SoundV nm y) ∧ (∀ f ∈ x.d, SoundV nm f.v) ∧ NamesP nm x.d := by
  cases x
  rw [SoundV, SoundLs_iff, SoundDs_iff]
  rfl
/-- the fields of a document -/
def FieldsP (nm : ByteArray → Bool) (d : List Fld) : Prop := NamesP nm d ∧ ∀ f ∈ d, SoundV nm f.v
noncomputable def soundB (nm : ByteArray → Bool) (x : Val) : Bool := @decide (SoundV nm x) (Classical.propDecidable _)
noncomputable def fieldsB (nm : ByteArray → Bool) (d : List Fld) : Bool := @decide (FieldsP nm d) (Classical.propDecidable _)
section
variable {nm : ByteArray → Bool} {x : Val} {d : List Fld}
theorem soundB_true (h : SoundV nm x) : soundB nm x = true := by unfold soundB; exact @decide_eq_true _ (Classical.propDecidable _) h
theorem soundB_false (h : ¬ SoundV nm x) : soundB nm x = false := by unfold soundB; exact @decide_eq_false _ (Classical.propDecidable _) h
theorem soundB_iff : soundB nm x = true ↔ SoundV nm x := by unfold soundB; exact @decide_eq_true_iff _ (Classical.propDecidable _)
theorem soundB_not : soundB nm x = false ↔ ¬ SoundV nm x := by unfold soundB; exact @decide_eq_false_iff_not _ (Classical.propDecidable _)
theorem fieldsB_true (h : FieldsP nm d) : fieldsB nm d = true := by unfold fieldsB; exact @decide_eq_true _ (Classical.propDecidable _) h
theorem fieldsB_false (h : ¬ FieldsP nm d) : fieldsB nm d = false := by unfold fieldsB; exact @decide_eq_false _ (Classical.propDecidable _) h
/-- the fields before i are sound -/
theorem FieldsP.nil : FieldsP nm [] := ⟨⟨by simp, by simp⟩, by simp⟩
theorem FieldsP.next {i : Nat} {f : Fld} (h : FieldsP nm (d.take i)) (hf : d[i]? = some f) (h1 : nm f.s = true) (h2 : f.s ∉ (d.take i).map Fld.s) (h3 : SoundV nm f.v) : FieldsP nm (d.take (i + 1)) := by
  rw [take_snoc' hf]
  refine ⟨⟨fun g hg => ?_, ?_⟩, fun g hg => ?_⟩
  · rcases List.mem_append.1 hg with hg | hg
    · exact h.1.1 g hg
    · simp at hg; subst hg; exact h1
  · rw [List.map_append, List.nodup_append]
    refine ⟨h.1.2, by simp, fun a ha b hb => ?_⟩
    simp at hb
    subst hb
    intro e
    subst e
    exact h2 ha
  · rcases List.mem_append.1 hg with hg | hg
    · exact h.2 g hg
    · simp at hg; subst hg; exact h3
theorem FieldsP.not_name {i : Nat} {f : Fld} (hf : d[i]? = some f) (h1 : nm f.s = false) : ¬ FieldsP nm d := fun h => by
  have := h.1.1 f (List.mem_of_getElem? hf)
  rw [h1] at this
  cases this
theorem FieldsP.not_sound {i : Nat} {f : Fld} (hf : d[i]? = some f) (h1 : ¬ SoundV nm f.v) : ¬ FieldsP nm d := fun h => h1 (h.2 f (List.mem_of_getElem? hf))
theorem FieldsP.not_new {i : Nat} {f : Fld} (hf : d[i]? = some f) (h1 : f.s ∈ (d.take i).map Fld.s) : ¬ FieldsP nm d := fun h => by
  have hn := h.1.2
  have e : d = d.take i ++ f :: d.drop (i + 1) := by rw [← drop_of hf, List.take_append_drop]
  rw [e, List.map_append, List.nodup_append] at hn
  exact hn.2.2 f.s h1 f.s (by simp) rfl
end
/-- a document's value -/
theorem sound_doc {nm : ByteArray → Bool} {x : Val} (hk : x.k = 5) (hh : HeadP x.k x.n x.t x.l.length x.d.length) : soundB nm x = fieldsB nm x.d := by
  have hl : x.l = [] := List.eq_nil_of_length_eq_zero (by have := hh.2.2.1; omega)
  by_cases h : FieldsP nm x.d
  · rw [fieldsB_true h]
    exact soundB_true ((SoundV_iff nm x).2 ⟨hh, by simp [hl], h.2, h.1⟩)
  · rw [fieldsB_false h]
    exact soundB_false fun hs => h ⟨((SoundV_iff nm x).1 hs).2.2.2, ((SoundV_iff nm x).1 hs).2.2.1⟩
theorem sound_list {nm : ByteArray → Bool} {x : Val} (hk : x.k = 6) (hh : HeadP x.k x.n x.t x.l.length x.d.length) (h : ∀ y ∈ x.l, SoundV nm y) : soundB nm x = true := by
  have hd : x.d = [] := List.eq_nil_of_length_eq_zero (by have := hh.2.2.2.1; omega)
  exact soundB_true ((SoundV_iff nm x).2 ⟨hh, h, by simp [hd], by simp [hd, NamesP]⟩)
theorem sound_not {nm : ByteArray → Bool} {x : Val} (h : ¬ HeadP x.k x.n x.t x.l.length x.d.length) : soundB nm x = false := soundB_false fun hs => h ((SoundV_iff nm x).1 hs).1
theorem sound_not_at {nm : ByteArray → Bool} {x : Val} {i : Nat} {y : Val} (hy : x.l[i]? = some y) (h : ¬ SoundV nm y) : soundB nm x = false := soundB_false fun hs => h (((SoundV_iff nm x).1 hs).2.1 y (List.mem_of_getElem? hy))
theorem sound_leaf {nm : ByteArray → Bool} {x : Val} (h5 : x.k ≠ 5) (h6 : x.k ≠ 6) (hh : HeadP x.k x.n x.t x.l.length x.d.length) : soundB nm x = true := by
  have hl : x.l = [] := List.eq_nil_of_length_eq_zero (by have := hh.2.2.1; omega)
  have hd : x.d = [] := List.eq_nil_of_length_eq_zero (by have := hh.2.2.2.1; omega)
  exact soundB_true ((SoundV_iff nm x).2 ⟨hh, by simp [hl], by simp [hd], by simp [hd, NamesP]⟩)

/-- valid values -/
noncomputable def validV (x : Val) : Bool := decide (x.size ≤ 1024) && decide (x.height ≤ 16) && soundB nameB x
end Go.Proofs.YtlmmgjgkmbmgpaaGreatDoor


/- The order of values is total; valid values that compare equal are identical. -/
namespace Go.Proofs.YtlmmgjgkmbmgpaaGreatDoor

def lex (c d : Int) : Int := if c ≠ 0 then c else d
theorem lex_ways (c d : Int) : c ≠ 0 ∧ lex c d = c ∨ c = 0 ∧ lex c d = d := by
  unfold lex
  by_cases h : c = 0
  · exact .inr ⟨h, by simp [h]⟩
  · exact .inl ⟨h, by simp [h]⟩
theorem TR.lx {a b c a' b' c' : Int} (h : TR a b c) (h' : TR a' b' c') : TR (lex a a') (lex b b') (lex c c') := by
  intro h1 h2
  rcases lex_ways a a' with ha | ha <;> rcases lex_ways b b' with hb | hb <;> rcases lex_ways c c' with hc | hc
  all_goals
    have H := h (by omega) (by omega)
    by_cases hab : a = 0 ∧ b = 0
    · have H' := h' (by omega) (by omega)
      omega
    · omega
theorem cmpI_rng (a b : Int) : -1 ≤ cmpI a b ∧ cmpI a b ≤ 1 := by unfold cmpI Lib.compareInt; repeat' split <;> omega
theorem cmpI_anti (a b : Int) : cmpI b a = -cmpI a b := by unfold cmpI Lib.compareInt; repeat' split <;> omega
theorem cmpI_ways (a b : Int) : a < b ∧ cmpI a b = -1 ∨ a = b ∧ cmpI a b = 0 ∨ b < a ∧ cmpI a b = 1 := by unfold cmpI Lib.compareInt; repeat' split <;> omega
theorem cmpI_tr (a b c : Int) : TR (cmpI a b) (cmpI b c) (cmpI a c) := by
  unfold TR
  intro h1 h2
  rcases cmpI_ways a b with h | h | h <;> rcases cmpI_ways b c with h' | h' | h' <;> rcases cmpI_ways a c with h3 | h3 | h3 <;> omega
theorem cmpI_zero {a b : Int} : cmpI a b = 0 ↔ a = b := by unfold cmpI Lib.compareInt; repeat' split <;> omega
theorem cmpBy_rng : ∀ a b : List UInt8, -1 ≤ Lib.compareBytes a b ∧ Lib.compareBytes a b ≤ 1
  | [], [] => by simp [Lib.compareBytes]
  | [], _ :: _ => by simp [Lib.compareBytes]
  | _ :: _, [] => by simp [Lib.compareBytes]
  | a :: a2, b :: b2 => by
    rw [Lib.compareBytes]
    repeat' split
    · omega
    · omega
    · exact cmpBy_rng a2 b2
theorem cmpBy_lex (a b : UInt8) (l m : List UInt8) : Lib.compareBytes (a :: l) (b :: m) = lex (cmpI (a.toNat : Int) (b.toNat : Int)) (Lib.compareBytes l m) := by
  rw [Lib.compareBytes]
  unfold cmpI Lib.compareInt lex
  have e1 : a < b ↔ a.toNat < b.toNat := UInt8.lt_iff_toNat_lt
  have e2 : b < a ↔ b.toNat < a.toNat := UInt8.lt_iff_toNat_lt
  rcases Nat.lt_trichotomy a.toNat b.toNat with h | h | h
  · rw [if_pos (e1.2 h), if_pos (show (a.toNat : Int) < b.toNat by omega)]; rfl
  · rw [if_neg (by rw [e1]; omega), if_neg (by rw [e2]; omega), if_neg (show ¬ (a.toNat : Int) < b.toNat by omega), if_neg (show ¬ (a.toNat : Int) > b.toNat by omega)]; rfl
  · rw [if_neg (by rw [e1]; omega), if_pos (e2.2 h), if_neg (show ¬ (a.toNat : Int) < b.toNat by omega), if_pos (show (a.toNat : Int) > b.toNat by omega)]; rfl
theorem lex_anti {c d c' d' : Int} (h : c' = -c) (h' : d' = -d) : lex c' d' = -lex c d := by unfold lex; repeat' split <;> omega
theorem lex_rng {c d : Int} (h : -1 ≤ c ∧ c ≤ 1) (h' : -1 ≤ d ∧ d ≤ 1) : -1 ≤ lex c d ∧ lex c d ≤ 1 := by unfold lex; split <;> omega
theorem cmpBy_anti : ∀ a b : List UInt8, Lib.compareBytes b a = -Lib.compareBytes a b
  | [], [] => by simp [Lib.compareBytes]
  | [], _ :: _ => by simp [Lib.compareBytes]
  | _ :: _, [] => by simp [Lib.compareBytes]
  | a :: a2, b :: b2 => by rw [cmpBy_lex, cmpBy_lex]; exact lex_anti (cmpI_anti _ _) (cmpBy_anti a2 b2)
theorem cmpBy_tr : ∀ a b c : List UInt8, TR (Lib.compareBytes a b) (Lib.compareBytes b c) (Lib.compareBytes a c)
  | [], [], [] => by simp [Lib.compareBytes, TR]
  | [], [], _ :: _ => by simp [Lib.compareBytes, TR]
  | [], _ :: _, [] => by simp [Lib.compareBytes, TR]
  | [], _ :: _, _ :: _ => by simp [Lib.compareBytes, TR]
  | _ :: _, [], [] => by simp [Lib.compareBytes, TR]
  | _ :: _, [], _ :: _ => by simp [Lib.compareBytes, TR]
  | _ :: _, _ :: _, [] => by simp [Lib.compareBytes, TR]
  | a :: a2, b :: b2, c :: c2 => by
    rw [cmpBy_lex, cmpBy_lex, cmpBy_lex]
    exact (cmpI_tr _ _ _).lx (cmpBy_tr a2 b2 c2)
/-- what holds of the comparison with a value -/
structure OrdAt (x : Val) : Prop where
  rng : ∀ y, -1 ≤ cmpV x y ∧ cmpV x y ≤ 1
  anti : ∀ y, cmpV y x = -cmpV x y
  tr : ∀ y z, TR (cmpV x y) (cmpV y z) (cmpV x z)
structure OrdL (l : List Val) : Prop where
  rng : ∀ m, -1 ≤ cmpL l m ∧ cmpL l m ≤ 1
  anti : ∀ m, cmpL m l = -cmpL l m
  tr : ∀ m n, TR (cmpL l m) (cmpL m n) (cmpL l n)
structure OrdD (l : List Fld) : Prop where
  rng : ∀ m, -1 ≤ cmpD l m ∧ cmpD l m ≤ 1
  anti : ∀ m, cmpD m l = -cmpD l m
  tr : ∀ m n, TR (cmpD l m) (cmpD m n) (cmpD l n)
theorem cmpF_lex (f g : Fld) : cmpF f g = lex (cmpB f.s g.s) (cmpV f.v g.v) := by rw [cmpF_eq]; rfl
theorem cmpL_cons (x y : Val) (r s : List Val) : cmpL (x :: r) (y :: s) = lex (cmpV x y) (cmpL r s) := by rw [cmpL]; rfl
theorem cmpD_cons (x y : Fld) (r s : List Fld) : cmpD (x :: r) (y :: s) = lex (cmpF x y) (cmpD r s) := by rw [cmpD]; rfl
theorem ordVL : ∀ l : List Val, (∀ x ∈ l, OrdAt x) → OrdL l := by
  intro l
  induction l with
  | nil =>
    intro _
    refine ⟨fun m => ?_, fun m => ?_, fun m n => ?_⟩
    · cases m <;> simp [cmpL]
    · cases m <;> simp [cmpL]
    · cases m <;> cases n <;> simp [cmpL, TR]
  | cons x r ih =>
    intro h
    have hx := h x (by simp)
    have hr := ih fun y hy => h y (by simp [hy])
    refine ⟨fun m => ?_, fun m => ?_, fun m n => ?_⟩
    · cases m with
      | nil => simp [cmpL]
      | cons y s => rw [cmpL_cons]; exact lex_rng (hx.rng y) (hr.rng s)
    · cases m with
      | nil => simp [cmpL]
      | cons y s => rw [cmpL_cons, cmpL_cons]; exact lex_anti (hx.anti y) (hr.anti s)
    · cases m with
      | nil => cases n <;> simp [cmpL, TR]
      | cons y s =>
        cases n with
        | nil => simp [cmpL, TR]
        | cons z t =>
          rw [cmpL_cons, cmpL_cons, cmpL_cons]
          exact (hx.tr y z).lx (hr.tr s t)
theorem cmpB_rng (a b : ByteArray) : -1 ≤ cmpB a b ∧ cmpB a b ≤ 1 := cmpBy_rng _ _
theorem cmpB_anti (a b : ByteArray) : cmpB b a = -cmpB a b := cmpBy_anti _ _
theorem cmpB_tr (a b c : ByteArray) : TR (cmpB a b) (cmpB b c) (cmpB a c) := cmpBy_tr _ _ _
theorem ordD : ∀ l : List Fld, (∀ f ∈ l, OrdAt f.v) → OrdD l := by
  intro l
  induction l with
  | nil =>
    intro _
    refine ⟨fun m => ?_, fun m => ?_, fun m n => ?_⟩
    · cases m <;> simp [cmpD]
    · cases m <;> simp [cmpD]
    · cases m <;> cases n <;> simp [cmpD, TR]
  | cons x r ih =>
    intro h
    have hx := h x (by simp)
    have hr := ih fun y hy => h y (by simp [hy])
    refine ⟨fun m => ?_, fun m => ?_, fun m n => ?_⟩
    · cases m with
      | nil => simp [cmpD]
      | cons y s => rw [cmpD_cons, cmpF_lex]; exact lex_rng (lex_rng (cmpB_rng _ _) (hx.rng y.v)) (hr.rng s)
    · cases m with
      | nil => simp [cmpD]
      | cons y s => rw [cmpD_cons, cmpD_cons, cmpF_lex, cmpF_lex]; exact lex_anti (lex_anti (cmpB_anti _ _) (hx.anti y.v)) (hr.anti s)
    · cases m with
      | nil => cases n <;> simp [cmpD, TR]
      | cons y s =>
        cases n with
        | nil => simp [cmpD, TR]
        | cons z t =>
          rw [cmpD_cons, cmpD_cons, cmpD_cons, cmpF_lex, cmpF_lex, cmpF_lex]
          exact ((cmpB_tr _ _ _).lx (hx.tr y.v z.v)).lx (hr.tr s t)
/-- the comparison of values of one kind -/
def cmpK (x y : Val) : Int := if x.k = 3 ∨ x.k = 9 ∨ x.k = 10 then cmpI x.n y.n else if x.k = 4 ∨ x.k = 7 ∨ x.k = 8 then cmpB x.t y.t else if x.k = 6 then cmpL x.l y.l else if x.k = 5 then cmpD x.d y.d else 0
theorem cmpV_K {x y : Val} (h : x.k = y.k) : cmpV x y = cmpK x y := by rw [cmpV_eq, if_neg (by simpa using h)]; rfl
theorem ordAt : ∀ x, OrdAt x := by
  intro x
  induction x using Val.ind with
  | h k n t l d ihl ihd =>
  have hL := ordVL l ihl
  have hD := ordD d ihd
  have rK : ∀ y, -1 ≤ cmpK (.mk k n t l d) y ∧ cmpK (.mk k n t l d) y ≤ 1 := by
    intro y
    unfold cmpK
    split
    · exact cmpI_rng _ _
    · split
      · exact cmpB_rng _ _
      · split
        · exact hL.rng y.l
        · split
          · exact hD.rng y.d
          · omega
  have aK : ∀ y, y.k = k → cmpK y (.mk k n t l d) = -cmpK (.mk k n t l d) y := by
    intro y hy
    unfold cmpK
    rw [hy]
    simp only [show (Val.mk k n t l d).k = k from rfl]
    split
    · exact cmpI_anti _ _
    · split
      · exact cmpB_anti _ _
      · split
        · exact hL.anti y.l
        · split
          · exact hD.anti y.d
          · rfl
  have tK : ∀ y z, y.k = k → TR (cmpK (.mk k n t l d) y) (cmpK y z) (cmpK (.mk k n t l d) z) := by
    intro y z hy
    unfold cmpK
    rw [hy]
    simp only [show (Val.mk k n t l d).k = k from rfl]
    split
    · exact cmpI_tr _ _ _
    · split
      · exact cmpB_tr _ _ _
      · split
        · exact hL.tr y.l z.l
        · split
          · exact hD.tr y.d z.d
          · simp [TR]
  refine ⟨fun y => ?_, fun y => ?_, fun y z => ?_⟩
  · by_cases h : (Val.mk k n t l d).k = y.k
    · rw [cmpV_K h]; exact rK y
    · rw [cmpV_kind h]; exact cmpI_rng _ _
  · by_cases h : (Val.mk k n t l d).k = y.k
    · rw [cmpV_K h, cmpV_K h.symm]; exact aK y h.symm
    · rw [cmpV_kind h, cmpV_kind (fun e => h e.symm)]; exact cmpI_anti _ _
  · intro h1 h2
    have hk : (Val.mk k n t l d).k = k := rfl
    have ek : cmpI k y.k ≤ 0 := by
      by_cases h : k = y.k
      · rw [cmpI_zero.2 h]; omega
      · rw [cmpV_kind (by rw [hk]; exact h)] at h1; exact h1
    have ek2 : cmpI y.k z.k ≤ 0 := by
      by_cases h : y.k = z.k
      · rw [cmpI_zero.2 h]; omega
      · rw [cmpV_kind h] at h2; exact h2
    have ek3 := cmpI_tr k y.k z.k ek ek2
    by_cases h : k = y.k
    · by_cases h' : y.k = z.k
      · rw [cmpV_K (y := y) (by rw [hk]; exact h)] at h1 ⊢
        rw [cmpV_K h'] at h2 ⊢
        rw [cmpV_K (y := z) (by rw [hk]; omega)]
        exact tK y z h.symm h1 h2
      · have h3 : k ≠ z.k := by omega
        rw [cmpV_kind h'] at h2 ⊢
        rw [cmpV_kind (y := z) (by rw [hk]; exact h3), hk, ← h]
        have := fun e => h3 (cmpI_zero.1 e)
        rw [← h] at h2
        refine ⟨h2, fun e => absurd e this, fun e => absurd e.2 this⟩
    · have h3 : cmpI k y.k ≠ 0 := fun e => h (cmpI_zero.1 e)
      have h4 : cmpI k z.k ≠ 0 := fun e => h3 (ek3.2.1 e).1
      have e1 : cmpV (.mk k n t l d) y = cmpI k y.k := cmpV_kind (by rw [hk]; exact h)
      have e2 : cmpV (.mk k n t l d) z = cmpI k z.k := cmpV_kind (by rw [hk]; exact fun e => h4 (cmpI_zero.2 e))
      rw [e1, e2]
      exact ⟨ek3.1, fun e => absurd e h4, fun e => absurd e.1 h3⟩
theorem cmpV_anti (x y : Val) : cmpV y x = -cmpV x y := (ordAt x).anti y
theorem cmpV_tr (x y z : Val) : TR (cmpV x y) (cmpV y z) (cmpV x z) := (ordAt x).tr y z
theorem cmpV_self (x : Val) : cmpV x x = 0 := by have := cmpV_anti x x; omega

end Go.Proofs.YtlmmgjgkmbmgpaaGreatDoor


/- Contracts of value.find and of the reference's at. -/
namespace Go.Proofs.YtlmmgjgkmbmgpaaGreatDoor
open Go.RowKit

/-- the index of the first field with a name, -1 if there is none -/
def findFrom (name : ByteArray) : List Fld → Nat → Int
  | [], _ => -1
  | f :: r, i => if f.s.toList == name.toList then (i : Int) else findFrom name r (i + 1)
def findI (x : Val) (name : ByteArray) : Int := if x.k == 5 then findFrom name x.d 0 else -1

set_option maxHeartbeats 1000000 in
theorem find_any (x : Val) (c : VC) (name : ByteArray) (w : World) (h : RW w c x) :
    Calls Tryz.prog 90 #[c.val, .string name] w fun e w' => e = .returned (.int .i64 (findI x name)) ∧ Below w.heap.size w w' := by
  have HO := Lib.hid h.open
  clear h
  cases hk : (c.k != 5)
  · have hn : c.dn ≤ 140737488355328 := by have := HO.out.dsz; unfold reach at this; omega
    have HE : Hid (findI x name = findFrom name x.d 0) := by
      have := HO.out.k
      simp at hk
      simp [findI, ← this, hk, Hid]
    go_enter Tryz.func90, Tryz.ntmps90
    go_wp2_with fail
    go_loopw [4, 5, 12] (fun v4 v5 v12 wr => ∃ i : Nat, i ≤ c.dn ∧ v4 = .int .i64 0 ∧ v12 = .int .i64 i ∧ findFrom name x.d 0 = findFrom name (x.d.drop i) i ∧ Blk wr w.heap.size 46 c.arr ∧ Below w.heap.size w wr) (fun _ _ v12 _ => c.dn - (intOf v12).toNat)
    case atStart => exact ⟨0, Nat.zero_le _, rfl, rfl, rfl, Blk.new_at rfl, (Below.refl _ _).alloc (Nat.le_refl _) _⟩
    case round =>
      obtain ⟨i, hi, rfl, rfl, hall, N1, N2⟩ := hrel
      have e4 := N1.cell 4
      simp at e4
      have HA := Lib.hid hall
      clear hall
      by_cases hlt : i < c.dn
      · obtain ⟨b, off, hDA, _, hel⟩ := HO.out.da (by omega)
        obtain ⟨f, hf⟩ : ∃ f, x.d[i]? = some f := ⟨_, List.getElem?_eq_getElem (by have := HO.out.dn; omega)⟩
        obtain ⟨hs, _, _⟩ := hel i f hf
        have hs' := (N2.cell (p := ⟨b, off + i * 6, none⟩) (World.block_lt_of_cell? w _ hs)).trans hs
        rw [hDA] at e4
        have HD := Lib.hid (drop_of hf)
        have J1 := Lib.hid N1
        have J2 := Lib.hid N2
        clear hs hel hf hDA N1 N2
        cases hq : (f.s.toList == name.toList)
        · have HF : Hid (findFrom name x.d 0 = findFrom name (x.d.drop (i + 1)) (i + 1)) := by rw [Hid, HA.out, HD.out, findFrom, hq]; rfl
          go_wp2_with fail
          go_roundw
          case rel => exact ⟨i + 1, by omega, rfl, by go_num, HF.out, J1.out, J2.out⟩
          case measure => simp [intOf]; omega
        · have HF : Hid (findFrom name x.d 0 = (i : Int)) := by rw [Hid, HA.out, HD.out, findFrom, hq]; rfl
          go_wp2_with fail
          go_ret
          exact ⟨by rw [HE.out, HF.out]; rfl, J2.out⟩
      · have HF : Hid (findFrom name x.d 0 = -1) := by rw [Hid, HA.out, List.drop_of_length_le (by have := HO.out.dn; omega)]; rfl
        have J2 := Lib.hid N2
        clear N1 N2
        go_wp2_with fail
        go_ret
        exact ⟨by rw [HE.out, HF.out]; rfl, J2.out⟩
  · have HE : Hid (findI x name = -1) := by
      have := HO.out.k
      simp at hk
      simp [findI, ← this, hk, Hid]
    go_enter Tryz.func90, Tryz.ntmps90
    go_wp2_with fail
    go_ret
    exact ⟨by rw [HE.out]; rfl, (Below.refl _ _).alloc (Nat.le_refl _) _⟩

end Go.Proofs.YtlmmgjgkmbmgpaaGreatDoor


/- Values in memory: rows, stores, copies. -/
namespace Go.Proofs.YtlmmgjgkmbmgpaaGreatDoor
open Go.RowKit

/-- block g is a row of n cells of type t -/
def Row (w : World) (g : Nat) (t : TypeId) (n : Nat) : Prop := ∃ cs, Blk w g t cs ∧ cs.size = n
section
variable {w w' : World} {g : Nat} {t : TypeId} {n : Nat}
theorem Row.lt (h : Row w g t n) : g < w.heap.size := by obtain ⟨cs, hb, _⟩ := h; exact hb.lt
theorem Row.step (h : Row w g t n) (hb : Below w.heap.size w w') : Row w' g t n := by obtain ⟨cs, h1, h2⟩ := h; exact ⟨cs, h1.step hb, h2⟩
theorem Row.alloc (h : Row w g t n) (o : Obj) : Row (w.alloc o) g t n := by obtain ⟨cs, h1, h2⟩ := h; exact ⟨cs, h1.alloc o, h2⟩
theorem Row.set (h : Row w g t n) (b off : Nat) (u : Value) : Row (w.setCell ⟨b, off, none⟩ u) g t n := by
  obtain ⟨cs, h1, h2⟩ := h
  by_cases hp : g = b
  · subst hp
    exact ⟨cs.setIfInBounds off u, h1.set_ off u, by simpa using h2⟩
  · exact ⟨cs, h1.far hp u, h2⟩
theorem Row.putV (h : Row w g t n) (b off : Nat) (v : VC) : Row (setV w b off v) g t n := ((((h.set _ _ _).set _ _ _).set _ _ _).set _ _ _).set _ _ _
theorem Row.frozen (h : Row w g t n) (i : Nat) : w.frozen? ⟨g, i, none⟩ = false := by obtain ⟨cs, h1, _⟩ := h; exact h1.frozen i
theorem Row.cell (h : Row w g t n) {i : Nat} (hi : i < n) : ∃ v, w.cell? ⟨g, i, none⟩ = some v := by
  obtain ⟨cs, h1, h2⟩ := h
  rw [h1.cell, Array.getElem?_eq_getElem (by omega)]
  exact ⟨_, rfl⟩
theorem Row.same (h : Row w g t n) (hb : w'.heap[g]? = w.heap[g]?) : Row w' g t n := by obtain ⟨cs, h1, h2⟩ := h; exact ⟨cs, hb.trans h1, h2⟩
end

theorem addr_ne {b b' o o' : Nat} (h : b ≠ b' ∨ o ≠ o') : (⟨b, o, none⟩ : Addr) ≠ ⟨b', o', none⟩ := by
  intro e
  injection e with e1 e2
  omega
theorem cell_setV_far {w : World} {b off b' o : Nat} {v : VC} (h : b' ≠ b ∨ o < off ∨ off + 5 ≤ o) : (setV w b off v).cell? ⟨b', o, none⟩ = w.cell? ⟨b', o, none⟩ := by
  unfold setV
  rw [World.cell?_setCell_other _ _ _ _ (addr_ne (by omega)), World.cell?_setCell_other _ _ _ _ (addr_ne (by omega)), World.cell?_setCell_other _ _ _ _ (addr_ne (by omega)), World.cell?_setCell_other _ _ _ _ (addr_ne (by omega)), World.cell?_setCell_other _ _ _ _ (addr_ne (by omega))]
theorem VAt.setV_far {w : World} {b off b' o : Nat} {v u : VC} (h : VAt w b' o u) (hne : b' ≠ b ∨ o + 5 ≤ off ∨ off + 5 ≤ o) : VAt (setV w b off v) b' o u := by
  obtain ⟨h0, h1, h2, h3, h4⟩ := h
  exact ⟨(cell_setV_far (by omega)).trans h0, (cell_setV_far (by omega)).trans h1, (cell_setV_far (by omega)).trans h2, (cell_setV_far (by omega)).trans h3, (cell_setV_far (by omega)).trans h4⟩
theorem VAt.of_setV {w : World} {b off : Nat} {v : VC} (h : ∀ k, k < 5 → ∃ u, w.cell? ⟨b, off + k, none⟩ = some u) : VAt (setV w b off v) b off v := by
  obtain ⟨u0, h0⟩ := h 0 (by omega)
  obtain ⟨u1, h1⟩ := h 1 (by omega)
  obtain ⟨u2, h2⟩ := h 2 (by omega)
  obtain ⟨u3, h3⟩ := h 3 (by omega)
  obtain ⟨u4, h4⟩ := h 4 (by omega)
  have o : ∀ {W : World} {x y : Nat} {z : Value}, x ≠ y → (W.setCell ⟨b, x, none⟩ z).cell? ⟨b, y, none⟩ = W.cell? ⟨b, y, none⟩ := fun hne => World.cell?_setCell_other _ _ _ _ (addr_ne (.inr hne))
  unfold setV
  refine ⟨?_, ?_, ?_, ?_, ?_⟩
  · rw [o (by omega), o (by omega), o (by omega), o (by omega)]
    exact World.cell?_setCell_same _ _ _ h0
  · rw [o (by omega), o (by omega), o (by omega)]
    exact World.cell?_setCell_same _ _ _ ((o (by omega)).trans h1)
  · rw [o (by omega), o (by omega)]
    exact World.cell?_setCell_same _ _ _ ((o (by omega)).trans ((o (by omega)).trans h2))
  · rw [o (by omega)]
    exact World.cell?_setCell_same _ _ _ ((o (by omega)).trans ((o (by omega)).trans ((o (by omega)).trans h3)))
  · exact World.cell?_setCell_same _ _ _ ((o (by omega)).trans ((o (by omega)).trans ((o (by omega)).trans ((o (by omega)).trans h4))))
theorem heap_setV {w : World} {b off : Nat} {v : VC} {g : Nat} (h : g ≠ b) : (setV w b off v).heap[g]? = w.heap[g]? := by
  unfold setV
  rw [Below.heap_setCell _ _ _ _ h, Below.heap_setCell _ _ _ _ h, Below.heap_setCell _ _ _ _ h, Below.heap_setCell _ _ _ _ h, Below.heap_setCell _ _ _ _ h]
/-- a copy in new memory, from block lo on: the list's parts lie below block mid, the document's from there on -/
structure Cl (lo mid : Nat) (w : World) (c : VC) (x : Val) : Prop where
  k : c.k = x.k
  n : c.n = x.n
  t : c.t = x.t
  tsz : x.t.size ≤ reach
  ln : c.ln = x.l.length
  lc : c.lc = c.ln
  lsz : c.ln * 80 ≤ reach
  l0 : c.ln = 0 → c.LA = none
  la : 0 < c.ln → ∃ g, c.LA = some ⟨g, 0, none⟩ ∧ lo ≤ g ∧ g < mid ∧ Row w g 46 (c.ln * 5) ∧ ∀ (i : Nat) (y : Val), x.l[i]? = some y → ∃ e, VAt w g (i * 5) e ∧ RV (fun b => g < b ∧ b < mid) w e y
  hmid : lo ≤ mid
  dn : c.dn = x.d.length
  dc : c.dc = c.dn
  dsz : c.dn * 96 ≤ reach
  d0 : c.dn = 0 → c.DA = none
  da : 0 < c.dn → ∃ g, c.DA = some ⟨g, 0, none⟩ ∧ mid ≤ g ∧ Row w g 98 (c.dn * 6) ∧ ∀ (i : Nat) (f : Fld), x.d[i]? = some f → w.cell? ⟨g, i * 6, none⟩ = some (.string f.s) ∧ f.s.size ≤ reach ∧ ∃ e, VAt w g (i * 6 + 1) e ∧ RV (fun b => g < b) w e f.v
theorem Cl.rv {lo mid : Nat} {w : World} {c : VC} {x : Val} (h : Cl lo mid w c x) : RV (fun b => lo ≤ b) w c x := by
  refine RVs.shut ⟨h.k, h.n, h.t, h.tsz, h.ln, by have := h.lc; omega, h.lsz, fun h' => ?_, h.dn, by have := h.dc; omega, h.dsz, fun h' => ?_⟩
  · obtain ⟨g, e, h1, h2, hrow, hl⟩ := h.la h'
    refine ⟨g, 0, e, ⟨h1, fun _ => hrow.frozen⟩, fun i y hi => ?_⟩
    obtain ⟨u, hu, hr⟩ := hl i y hi
    exact ⟨u, by rw [Nat.zero_add]; exact hu, hr.mono fun b hb => by omega⟩
  · obtain ⟨g, e, h1, hrow, hl⟩ := h.da h'
    have hm := h.hmid
    refine ⟨g, 0, e, ⟨by omega, fun _ => hrow.frozen⟩, fun i y hi => ?_⟩
    obtain ⟨hs, hz, u, hu, hr⟩ := hl i y hi
    exact ⟨by rw [Nat.zero_add]; exact hs, hz, u, by rw [Nat.zero_add]; exact hu, hr.mono fun b hb => by omega⟩
def CloneOk (w : World) (x : Val) (e : Ending) (w' : World) : Prop := ∃ (c : VC) (mid : Nat), e = .returned c.val ∧ Cl w.heap.size mid w' c x ∧ Below w.heap.size w w'

theorem info_value : (Tryz.prog.info? 46).map (fun i => (i.zero, i.size, i.bytes)) = some (some VC.zero.val, 5, 80) := by kernel_rfl
theorem info_field : (Tryz.prog.info? 98).map (fun i => (i.zero, i.size, i.bytes)) = some (some (.agg (#[.string ByteArray.empty] ++ VC.zero.arr)), 6, 96) := by kernel_rfl

theorem run_make_rowN {P : Program} (t e : TypeId) (i : TypeInfo) (z : Value) (ht : P.underlying t = some (.slice e)) (hi : P.info? e = some i) (hz : i.zero = some z)
    (n : Nat) (hbytes : i.bytes * n ≤ 281474976710656) (h63 : n ≤ 9223372036854775807) (w : World) :
    (Instr.makeSlice t (.int .i64 (n : Int)) (.int .i64 (n : Int))).run P w = .ok (.slice (some ⟨w.heap.size, 0, none⟩) n n) (w.alloc (.cells (madeCells z.cells (n * i.size)) e)) := by
  have hb : (i.bytes : Int) * (n : Int) ≤ 281474976710656 := by
    have h : ((i.bytes * n : Nat) : Int) ≤ 281474976710656 := by omega
    rwa [Int.natCast_mul] at h
  have hr := run_make (P := P) w t e i z ht hi hz .i64 .i64 n n (by omega) (by omega) hb (by omega)
  simp only [Int.toNat_natCast] at hr
  exact hr

/-- r after the first half of clone -/
structure CSt (w : World) (c : VC) (x : Val) (wx : World) (r : VC) : Prop where
  b0 : Blk wx w.heap.size 46 c.arr
  b1 : Blk wx (w.heap.size + 1) 46 VC.zero.arr
  b2 : Blk wx (w.heap.size + 2) 46 r.arr
  bel : Below w.heap.size w wx
  e : r.k = c.k ∧ r.n = c.n ∧ r.t = c.t ∧ r.DA = none ∧ r.dn = 0 ∧ r.dc = 0 ∧ r.ln = c.ln ∧ r.lc = c.ln
  l0 : r.ln = 0 → r.LA = none
  la : 0 < r.ln → ∃ g, r.LA = some ⟨g, 0, none⟩ ∧ w.heap.size + 3 ≤ g ∧ Row wx g 46 (r.ln * 5) ∧ ∀ (i : Nat) (y : Val), x.l[i]? = some y → ∃ e, VAt wx g (i * 5) e ∧ RV (fun b => g < b) wx e y

end Go.Proofs.YtlmmgjgkmbmgpaaGreatDoor
namespace Go.RowKit
theorem Below.undrewN {B n : Nat} {a w : World} (h : Below B (a.drewN n) w) : Below B a w := ⟨h.os, h.tape, h.output, h.size, h.block⟩
end Go.RowKit
namespace Go.Proofs.YtlmmgjgkmbmgpaaGreatDoor
open Go.RowKit

/-- r in the first loop of clone, i elements done -/
structure CL (w : World) (c : VC) (l : List Val) (i : Nat) (wx : World) : Prop where
  b0 : Blk wx w.heap.size 46 c.arr
  b1 : Blk wx (w.heap.size + 1) 46 VC.zero.arr
  b2 : Blk wx (w.heap.size + 2) 46 (VC.arr ⟨c.k, c.n, c.t, some ⟨w.heap.size + 3, 0, none⟩, c.ln, c.ln, none, 0, 0⟩)
  row : Row wx (w.heap.size + 3) 46 (c.ln * 5)
  el : ∀ (j : Nat) (y : Val), j < i → l[j]? = some y → ∃ e, VAt wx (w.heap.size + 3) (j * 5) e ∧ RV (fun b => w.heap.size + 3 < b) wx e y
  bel : Below w.heap.size w wx
theorem RV.step' {F : Nat → Prop} {W w' : World} {c : VC} {x : Val} (h : RV (fun b => F b ∧ b < W.heap.size) W c x) (hb : Below W.heap.size W w') : RV F w' c x := h.keepG fun b hF _ => ⟨hF.1, hb.block b hF.2⟩
theorem CL.step {w wx w' : World} {c : VC} {l : List Val} {i : Nat} (h : CL w c l i wx) (hb : Below wx.heap.size wx w') : CL w c l i w' :=
  ⟨h.b0.step hb, h.b1.step hb, h.b2.step hb, h.row.step hb, fun j y hj hy => by obtain ⟨e, h1, h2⟩ := h.el j y hj hy; exact ⟨e, h1.step hb, h2.step hb⟩, h.bel.step' hb⟩
theorem CL.next {w wx : World} {c : VC} {l : List Val} {i : Nat} {y : Val} {u : VC} (h : CL w c l i wx) (hi : i < c.ln) (hy : l[i]? = some y) (hu : RV (fun b => w.heap.size + 3 < b) wx u y) :
    CL w c l (i + 1) (setV wx (w.heap.size + 3) (i * 5) u) := by
  have keep : ∀ {z : VC} {v : Val}, RV (fun b => w.heap.size + 3 < b) wx z v → RV (fun b => w.heap.size + 3 < b) (setV wx (w.heap.size + 3) (i * 5) u) z v := fun hr => hr.keep fun b hb => heap_setV (by omega)
  refine ⟨h.b0.farV (by omega) _ _, h.b1.farV (by omega) _ _, h.b2.farV (by omega) _ _, h.row.putV _ _ _, fun j z hj hz => ?_, below_setV h.bel (by omega) _ _⟩
  by_cases e : j = i
  · subst e
    obtain rfl : y = z := by have := hy.symm.trans hz; simpa using this
    exact ⟨u, VAt.of_setV fun q hq => h.row.cell (by omega), keep hu⟩
  · obtain ⟨e', h1, h2⟩ := h.el j z (by omega) hz
    exact ⟨e', h1.setV_far (by omega), keep h2⟩

theorem cell_setF_far {w : World} {b off b' o : Nat} {s : ByteArray} {v : VC} (h : b' ≠ b ∨ o < off ∨ off + 6 ≤ o) : (setV (w.setCell ⟨b, off, none⟩ (.string s)) b (off + 1) v).cell? ⟨b', o, none⟩ = w.cell? ⟨b', o, none⟩ := by
  rw [cell_setV_far (by omega), World.cell?_setCell_other _ _ _ _ (addr_ne (by omega))]
theorem VAt.setF_far {w : World} {b off b' o : Nat} {s : ByteArray} {v u : VC} (h : VAt w b' o u) (hne : b' ≠ b ∨ o + 5 ≤ off ∨ off + 6 ≤ o) : VAt (setV (w.setCell ⟨b, off, none⟩ (.string s)) b (off + 1) v) b' o u := by
  obtain ⟨h0, h1, h2, h3, h4⟩ := h
  exact ⟨(cell_setF_far (by omega)).trans h0, (cell_setF_far (by omega)).trans h1, (cell_setF_far (by omega)).trans h2, (cell_setF_far (by omega)).trans h3, (cell_setF_far (by omega)).trans h4⟩
theorem heap_setF {w : World} {b off : Nat} {s : ByteArray} {v : VC} {g : Nat} (h : g ≠ b) : (setV (w.setCell ⟨b, off, none⟩ (.string s)) b (off + 1) v).heap[g]? = w.heap[g]? := by
  rw [heap_setV h, Below.heap_setCell _ _ _ _ h]

/-- r in the second loop of clone, i fields done -/
structure CD (w : World) (c r : VC) (gd : Nat) (l : List Val) (d : List Fld) (i : Nat) (wx : World) : Prop where
  b0 : Blk wx w.heap.size 46 c.arr
  b1 : Blk wx (w.heap.size + 1) 46 VC.zero.arr
  b2 : Blk wx (w.heap.size + 2) 46 (VC.arr ⟨r.k, r.n, r.t, r.LA, r.ln, r.lc, some ⟨gd, 0, none⟩, c.dn, c.dn⟩)
  hgd : w.heap.size + 3 ≤ gd
  row : Row wx gd 98 (c.dn * 6)
  la : 0 < r.ln → ∃ g, r.LA = some ⟨g, 0, none⟩ ∧ w.heap.size + 3 ≤ g ∧ g < gd ∧ Row wx g 46 (r.ln * 5) ∧ ∀ (i : Nat) (y : Val), l[i]? = some y → ∃ e, VAt wx g (i * 5) e ∧ RV (fun b => g < b ∧ b < gd) wx e y
  el : ∀ (j : Nat) (f : Fld), j < i → d[j]? = some f → wx.cell? ⟨gd, j * 6, none⟩ = some (.string f.s) ∧ ∃ e, VAt wx gd (j * 6 + 1) e ∧ RV (fun b => gd < b) wx e f.v
  bel : Below w.heap.size w wx
theorem CD.step {w wx w' : World} {c r : VC} {gd : Nat} {l : List Val} {d : List Fld} {i : Nat} (h : CD w c r gd l d i wx) (hb : Below wx.heap.size wx w') : CD w c r gd l d i w' := by
  refine ⟨h.b0.step hb, h.b1.step hb, h.b2.step hb, h.hgd, h.row.step hb, fun hn => ?_, fun j f hj hf => ?_, h.bel.step' hb⟩
  · obtain ⟨g, h1, h2, h3, h4, h5⟩ := h.la hn
    refine ⟨g, h1, h2, h3, h4.step hb, fun i y hi => ?_⟩
    obtain ⟨e, k1, k2⟩ := h5 i y hi
    exact ⟨e, k1.step hb, k2.step hb⟩
  · obtain ⟨h1, e, h2, h3⟩ := h.el j f hj hf
    exact ⟨(hb.cell (p := ⟨gd, j * 6, none⟩) h.row.lt).trans h1, e, h2.step hb, h3.step hb⟩
theorem CD.next {w wx : World} {c r : VC} {gd : Nat} {l : List Val} {d : List Fld} {i : Nat} {f : Fld} {u : VC} (h : CD w c r gd l d i wx) (hi : i < c.dn) (hf : d[i]? = some f) (hu : RV (fun b => gd < b) wx u f.v) :
    CD w c r gd l d (i + 1) (setV (wx.setCell ⟨gd, i * 6, none⟩ (.string f.s)) gd (i * 6 + 1) u) := by
  have hg := h.hgd
  have keep : ∀ {F : Nat → Prop} {z : VC} {v : Val}, (∀ b, F b → b ≠ gd) → RV F wx z v → RV F (setV (wx.setCell ⟨gd, i * 6, none⟩ (.string f.s)) gd (i * 6 + 1) u) z v := fun hF hr => hr.keep fun b hb => heap_setF (hF b hb)
  refine ⟨(h.b0.far (p := ⟨gd, i * 6, none⟩) (by show w.heap.size ≠ gd; omega) _).farV (by omega) _ _, (h.b1.far (p := ⟨gd, i * 6, none⟩) (by show w.heap.size + 1 ≠ gd; omega) _).farV (by omega) _ _, (h.b2.far (p := ⟨gd, i * 6, none⟩) (by show w.heap.size + 2 ≠ gd; omega) _).farV (by omega) _ _, hg, (h.row.set _ _ _).putV _ _ _, fun hn => ?_, fun j z hj hz => ?_, below_setV (h.bel.setCell (p := ⟨gd, i * 6, none⟩) (by show w.heap.size ≤ gd; omega) _) (by omega) _ _⟩
  · obtain ⟨g, h1, h2, h3, h4, h5⟩ := h.la hn
    refine ⟨g, h1, h2, h3, (h4.set _ _ _).putV _ _ _, fun i y hi => ?_⟩
    obtain ⟨e, k1, k2⟩ := h5 i y hi
    exact ⟨e, k1.setF_far (by omega), keep (by intro b hb; omega) k2⟩
  · by_cases e : j = i
    · subst e
      obtain rfl : f = z := by have := hf.symm.trans hz; simpa using this
      obtain ⟨o, ho⟩ := h.row.cell (i := j * 6) (by omega)
      refine ⟨?_, u, VAt.of_setV fun q hq => (h.row.set gd (j * 6) (.string f.s)).cell (by omega), keep (by intro b hb; omega) hu⟩
      rw [cell_setV_far (by omega)]
      exact World.cell?_setCell_same _ _ _ ho
    · obtain ⟨h1, e', h2, h3⟩ := h.el j z (by omega) hz
      exact ⟨(cell_setF_far (by omega)).trans h1, e', h2.setF_far (by omega), keep (by intro b hb; omega) h3⟩

theorem CD.start {w wc : World} {ck cn : Int} {ct : ByteArray} {LA DA rLA : Option Addr} {ln lc dn dc : Nat} {k n : Int} {t : ByteArray} {l : List Val} {d : List Fld} {cs : Array Value} (h : CSt w ⟨ck, cn, ct, LA, ln, lc, DA, dn, dc⟩ (.mk k n t l d) wc ⟨ck, cn, ct, rLA, ln, ln, none, 0, 0⟩) :
    CD w ⟨ck, cn, ct, LA, ln, lc, DA, dn, dc⟩ ⟨ck, cn, ct, rLA, ln, ln, none, 0, 0⟩ wc.heap.size l d 0 ((wc.setCell ⟨w.heap.size + 2, 4, none⟩ (.slice (some ⟨wc.heap.size, 0, none⟩) dn dn)).alloc (Obj.cells (madeCells cs (dn * 6)) 98)) := by
  have hlt := h.b2.lt
  have hsz : (wc.setCell ⟨w.heap.size + 2, 4, none⟩ (.slice (some ⟨wc.heap.size, 0, none⟩) dn dn)).heap.size = wc.heap.size := by simp [World.setCell]
  refine ⟨(h.b0.far (p := ⟨w.heap.size + 2, 4, none⟩) (by show w.heap.size ≠ w.heap.size + 2; omega) _).alloc _, (h.b1.far (p := ⟨w.heap.size + 2, 4, none⟩) (by show w.heap.size + 1 ≠ w.heap.size + 2; omega) _).alloc _, (h.b2.set_ 4 _).alloc _, by omega, ⟨_, Blk.new_at hsz.symm, size_madeCells _ _⟩, fun hn => ?_, fun j f hj => by omega, ?_⟩
  · obtain ⟨g, h1, h2, h3, h4⟩ := h.la hn
    refine ⟨g, h1, h2, h3.lt, (h3.set _ _ _).alloc _, fun i y hi => ?_⟩
    obtain ⟨e, k1, k2⟩ := h4 i y hi
    have hk : ∀ q, q < wc.heap.size → q ≠ w.heap.size + 2 → ((wc.setCell ⟨w.heap.size + 2, 4, none⟩ (.slice (some ⟨wc.heap.size, 0, none⟩) dn dn)).alloc (Obj.cells (madeCells cs (dn * 6)) 98)).heap[q]? = wc.heap[q]? := fun q hq hne => by
      rw [Below.heap_alloc _ _ _ (by rw [hsz]; exact hq), Below.heap_setCell _ _ _ _ hne]
    refine ⟨e, k1.keep (hk g h3.lt (by omega)), k2.lt.keepG fun q hq _ => ⟨hq, hk q hq.2 (by omega)⟩⟩
  · exact (h.bel.setCell (p := ⟨w.heap.size + 2, 4, none⟩) (by show w.heap.size ≤ w.heap.size + 2; omega) _).alloc (by rw [hsz]; exact h.bel.size) _

/-- the world of clone ahead of its last statement -/
structure CE (w : World) (x : Val) (r : VC) (mid : Nat) (wx : World) : Prop where
  b1 : Blk wx (w.heap.size + 1) 46 VC.zero.arr
  b2 : Blk wx (w.heap.size + 2) 46 r.arr
  cl : Cl (w.heap.size + 3) mid wx r x
  bel : Below w.heap.size w wx

theorem CE.of_cd {w wx : World} {ck cn : Int} {ct : ByteArray} {LA DA rLA : Option Addr} {ln lc dn dc gd : Nat} {k n : Int} {t : ByteArray} {l : List Val} {d : List Fld}
    (h : CD w ⟨ck, cn, ct, LA, ln, lc, DA, dn, dc⟩ ⟨ck, cn, ct, rLA, ln, ln, none, 0, 0⟩ gd l d dn wx) (ho : RVs (fun _ => True) w ⟨ck, cn, ct, LA, ln, lc, DA, dn, dc⟩ (.mk k n t l d)) (hd : d.length ≤ dn) (hl0 : ln = 0 → rLA = none) (hd0 : 0 < dn) :
    CE w (.mk k n t l d) ⟨ck, cn, ct, rLA, ln, ln, some ⟨gd, 0, none⟩, dn, dn⟩ gd wx := by
  refine ⟨h.b1, h.b2, ⟨ho.k, ho.n, ho.t, ho.tsz, ho.ln, rfl, ho.lsz, hl0, h.la, h.hgd, ho.dn, rfl, ho.dsz, fun h0 => ?_, fun hp => ?_⟩, h.bel⟩
  · exact absurd h0 (by show dn ≠ 0; omega)
  · refine ⟨gd, rfl, Nat.le_refl _, h.row, fun i f hi => ?_⟩
    obtain ⟨h1, h2⟩ := h.el i f (by have := (List.getElem?_eq_some_iff.1 hi).1; simp only [Val.d] at this; omega) hi
    obtain ⟨b, off, _, _, hel⟩ := ho.da hp
    exact ⟨h1, (hel i f hi).2.1, h2⟩
theorem CE.of_cst {w wx : World} {ck cn : Int} {ct : ByteArray} {LA DA rLA : Option Addr} {ln lc dc : Nat} {x : Val}
    (h : CSt w ⟨ck, cn, ct, LA, ln, lc, DA, 0, dc⟩ x wx ⟨ck, cn, ct, rLA, ln, ln, none, 0, 0⟩) (ho : RVs (fun _ => True) w ⟨ck, cn, ct, LA, ln, lc, DA, 0, dc⟩ x) :
    CE w x ⟨ck, cn, ct, rLA, ln, ln, none, 0, 0⟩ wx.heap.size wx := by
  refine ⟨h.b1, h.b2, ⟨ho.k, ho.n, ho.t, ho.tsz, ho.ln, rfl, ho.lsz, h.l0, fun hn => ?_, ?_, ho.dn, rfl, ho.dsz, fun _ => rfl, fun hp => absurd hp (Nat.lt_irrefl 0)⟩, h.bel⟩
  · obtain ⟨g, h1, h2, h3, h4⟩ := h.la hn
    refine ⟨g, h1, h2, h3.lt, h3, fun i y hi => ?_⟩
    obtain ⟨e, k1, k2⟩ := h4 i y hi
    exact ⟨e, k1, k2.lt⟩
  · have := h.b2.lt
    omega
theorem Cl.keep {lo mid : Nat} {w w' : World} {c : VC} {x : Val} (h : Cl lo mid w c x) (hk : ∀ b, lo ≤ b → w'.heap[b]? = w.heap[b]?) : Cl lo mid w' c x := by
  refine ⟨h.k, h.n, h.t, h.tsz, h.ln, h.lc, h.lsz, h.l0, fun hn => ?_, h.hmid, h.dn, h.dc, h.dsz, h.d0, fun hn => ?_⟩
  · obtain ⟨g, h1, h2, h3, h4, h5⟩ := h.la hn
    refine ⟨g, h1, h2, h3, h4.same (hk g h2), fun i y hi => ?_⟩
    obtain ⟨e, k1, k2⟩ := h5 i y hi
    exact ⟨e, k1.keep (hk g h2), k2.keep fun b hb => hk b (by omega)⟩
  · obtain ⟨g, h1, h2, h3, h4⟩ := h.da hn
    have hm := h.hmid
    refine ⟨g, h1, h2, h3.same (hk g (by omega)), fun i f hi => ?_⟩
    obtain ⟨k0, kz, e, k1, k2⟩ := h4 i f hi
    exact ⟨(World.cell?_of_block (w := w) (a := ⟨g, i * 6, none⟩) (hk g (by omega))).trans k0, kz, e, k1.keep (hk g (by omega)), k2.keep fun b hb => hk b (by omega)⟩
theorem Cl.low {lo lo' mid : Nat} {w : World} {c : VC} {x : Val} (h : Cl lo mid w c x) (hl : lo' ≤ lo) : Cl lo' mid w c x := by
  refine ⟨h.k, h.n, h.t, h.tsz, h.ln, h.lc, h.lsz, h.l0, fun hn => ?_, by have := h.hmid; omega, h.dn, h.dc, h.dsz, h.d0, h.da⟩
  obtain ⟨g, h1, h2, h3, h4, h5⟩ := h.la hn
  exact ⟨g, h1, by omega, h3, h4, h5⟩
theorem CE.done {w wx : World} {x : Val} {r : VC} {mid : Nat} (h : CE w x r mid wx) : CloneOk w x (.returned r.val) (setV wx (w.heap.size + 1) 0 r) :=
  ⟨r, mid, rfl, (h.cl.keep fun b hb => heap_setV (by omega)).low (by omega), below_setV h.bel (by omega) _ _⟩
theorem results_val {fn : Func} {p : Tmp} (h : fn.results = #[.cell p 46]) (tmps : Array Value) (g1 off : Nat) (h1 : tmps[p]?.getD undef = .pointer (some ⟨g1, off, none⟩))
    (W : World) (v : VC) (q : VAt W g1 off v) :
    (results fn tmps).run Tryz.prog W = .ok v.val W := by
  obtain ⟨q0, q1, q2, q3, q4⟩ := q
  simp [results, h, h1, asAddr, go_sem, q0, q1, q2, q3, q4]

end Go.Proofs.YtlmmgjgkmbmgpaaGreatDoor


/- The contract of value.clone. -/
namespace Go.Proofs.YtlmmgjgkmbmgpaaGreatDoor
open Go.RowKit

set_option maxRecDepth 100000 in
set_option maxHeartbeats 4000000 in
theorem clone_any (x : Val) : ∀ (c : VC) (w : World), RW w c x → Calls Tryz.prog 91 #[c.val] w (CloneOk w x) := by
  induction x using Val.ind with
  | h k n t l d ihl ihd =>
  intro c w h
  obtain ⟨ck, cn, ct, LA, ln, lc, DA, dn, dc⟩ := c
  obtain ⟨i0, hi0, hz0, hz1, hz2⟩ := info_parts info_value
  obtain ⟨j0, hj0, hy0, hy1, hy2⟩ := info_parts info_field
  have ho := h.open
  have hls : ln * 80 ≤ 140737488355328 := ho.lsz
  have hds : dn * 96 ≤ 140737488355328 := ho.dsz
  have hll : ln = l.length := ho.ln
  have hdl : dn = d.length := ho.dn
  have hmk := run_make_rowN (P := Tryz.prog) 28 46 i0 VC.zero.val Tryz.underlying28 hi0 hz0 ln (by rw [hz2]; omega) (by omega)
  have hmd := run_make_rowN (P := Tryz.prog) 44 98 j0 (.agg (#[.string ByteArray.empty] ++ VC.zero.arr)) Tryz.underlying44 hj0 hy0 dn (by rw [hy2]; omega) (by omega)
  rw [hz1] at hmk
  rw [hy1] at hmd
  have hln : ln ≤ 140737488355328 := by omega
  have hdn : dn ≤ 140737488355328 := by omega
  have HLL := Lib.hid hll
  have HDL := Lib.hid hdl
  clear hll hdl
  have HI := Lib.hid ihl
  have HJ := Lib.hid ihd
  have HO := Lib.hid ho
  clear ihl ihd ho h hi0 hz0 hz1 hz2 hj0 hy0 hy1 hy2
  go_enter Tryz.func91, Tryz.ntmps91
  go_upto_if 18 with fail
  go_cut [] (fun wx => ∃ r, CSt w ⟨ck, cn, ct, LA, ln, lc, DA, dn, dc⟩ (.mk k n t l d) wx r)
  case first =>
    by_cases hl0 : 0 < ln
    · obtain ⟨b, off, hLA, _, hel⟩ := HO.out.la hl0
      have hLA' : LA = some ⟨b, off, none⟩ := hLA
      subst hLA'
      have HEL := Lib.hid hel
      clear hLA hel
      have hd : decide (0 < ln) = true := by simpa using hl0
      rw [hd]
      clear hd
      go_wp2_with fail
      go_loopw [4, 5, 27] (fun v4 v5 v27 wr => ∃ i : Nat, i ≤ ln ∧ v27 = .int .i64 i ∧ CL w ⟨ck, cn, ct, some ⟨b, off, none⟩, ln, lc, DA, dn, dc⟩ l i wr) (fun _ _ v27 _ => ln - (intOf v27).toNat)
      case atStart =>
        refine ⟨0, Nat.zero_le _, rfl, ⟨((Blk.new_at rfl).alloc _).alloc _ |>.alloc _, ((Blk.new_at (by simp)).alloc _).alloc _, (Blk.new_at (by simp)).alloc _, ⟨_, Blk.new_at (by simp), size_madeCells _ _⟩, fun j y hj => by omega, ((((Below.refl _ _).alloc (Nat.le_refl _) _).alloc (by simp) _).alloc (by simp; omega) _).alloc (by simp; omega) _⟩⟩
      case round =>
        obtain ⟨i, hi, rfl, I⟩ := hrel
        have J := Lib.hid I
        by_cases hlt : i < ln
        · obtain ⟨y, hy⟩ : ∃ y, l[i]? = some y := ⟨_, List.getElem?_eq_getElem (by have := HLL.out; omega)⟩
          obtain ⟨u, hu, hr⟩ := HEL.out i y hy
          have hr' := hr.lt.step' I.bel
          obtain ⟨u0, u1, u2, u3, u4⟩ := hu.keep (I.bel.block b hu.lt)
          have HY := Lib.hid hy
          have HR := Lib.hid hr'
          have HC := Lib.hid (HI.out y (List.mem_of_getElem? hy))
          have hb : b < wr.heap.size := by have := hu.lt; have := I.bel.size; omega
          have r3 := I.b2.cell 3
          simp at r3
          clear hy hr hr' hu I hmk hmd
          go_wp2_with fail
          have K := J.out.step ((Below.refl wr.heap.size wr).alloc (Nat.le_refl _) (Obj.cells u.arr 46))
          have KB : Blk (wr.alloc (Obj.cells u.arr 46)) wr.heap.size 46 u.arr := Blk.new_at rfl
          have KR := HR.out.alloc (Obj.cells u.arr 46)
          clear HR u0 u1 u2 u3 u4 r3
          have hga : w.heap.size + 3 < wr.heap.size := J.out.row.lt
          generalize wr.alloc (Obj.cells u.arr 46) = wa at *
          generalize wr.heap.size = ga at *
          have hne : w.heap.size + 3 ≠ ga := by omega
          obtain ⟨u0, u1, u2, u3, u4⟩ := VAt.of_blk KB
          simp only [Nat.zero_add] at u1 u2 u3 u4
          have r3 := K.b2.cell 3
          simp at r3
          have LB := Lib.hid KB
          have LK := Lib.hid K
          have LR := Lib.hid KR
          clear KB K KR
          have hi0 : (0 : Int) ≤ (i : Int) := by omega
          have hi1 : (i : Int) < (ln : Int) := by omega
          go_region_held3 (fun w' => w'.cell? ⟨w.heap.size + 2, 3, none⟩ = some (.slice (some ⟨w.heap.size + 3, 0, none⟩) ln ln) ∧ w'.cell? ⟨ga, 0, none⟩ = some (.int .i64 u.k) ∧ w'.cell? ⟨ga, 1, none⟩ = some (.int .i64 u.n) ∧ w'.cell? ⟨ga, 2, none⟩ = some (.string u.t) ∧ w'.cell? ⟨ga, 3, none⟩ = some (.slice u.LA u.ln u.lc) ∧ w'.cell? ⟨ga, 4, none⟩ = some (.slice u.DA u.dn u.dc))
            (first | go_keep | exact ⟨s0, s1, s2, s3, s4, s5⟩ | ((try dsimp only); repeat' apply And.intro; all_goals go_keep))
            ((go_at_call 91; refine (HC.out u _ (LR.out.drewN 1)).mono ?_; rintro e w1 ⟨c', mid, rfl, hcl, hb1⟩; replace hb1 : Below wa.heap.size wa w1 := hb1.undrewN; replace hcl : Cl wa.heap.size mid w1 c' y := hcl; have s0 := (hb1.cell (p := ⟨w.heap.size + 2, 3, none⟩) LK.out.b2.lt).trans r3; have s1 := (hb1.cell (p := ⟨ga, 0, none⟩) LB.out.lt).trans u0; have s2 := (hb1.cell (p := ⟨ga, 1, none⟩) LB.out.lt).trans u1; have s3 := (hb1.cell (p := ⟨ga, 2, none⟩) LB.out.lt).trans u2; have s4 := (hb1.cell (p := ⟨ga, 3, none⟩) LB.out.lt).trans u3; have s5 := (hb1.cell (p := ⟨ga, 4, none⟩) LB.out.lt).trans u4; have row : Row w1 (w.heap.size + 3) 46 (ln * 5) := (LK.out.step hb1).row; have z := row.frozen; obtain ⟨o0, p0⟩ := row.cell (i := i * 5) (by omega); obtain ⟨o1, p1⟩ := row.cell (i := i * 5 + 1) (by omega); obtain ⟨o2, p2⟩ := row.cell (i := i * 5 + 2) (by omega); obtain ⟨o3, p3⟩ := row.cell (i := i * 5 + 3) (by omega); obtain ⟨o4, p4⟩ := row.cell (i := i * 5 + 4) (by omega); have LC := Lib.hid hcl; have LX := Lib.hid (LK.out.step hb1); clear hcl hb1 row))
          clear s0 s1 s2 s3 s4 s5 p0 p1 p2 p3 p4 z u0 u1 u2 u3 u4 r3
          go_wp2_with fail
          go_roundw
          case rel => exact ⟨i + 1, by omega, by go_num, LX.out.next hlt HY.out (LC.out.rv.mono fun q hq => by have := LK.out.row.lt; omega)⟩
          case measure => simp [intOf]; omega
        · obtain rfl : i = ln := by omega
          clear hmk hmd
          go_wp2_with fail
          go_meet
          exact ⟨_, I.b0, I.b1, I.b2, I.bel, ⟨rfl, rfl, rfl, rfl, rfl, rfl, rfl, rfl⟩, fun h => absurd h (by show i ≠ 0; omega), fun _ => ⟨w.heap.size + 3, rfl, Nat.le_refl _, I.row, fun j y hj => I.el j y (by have := (List.getElem?_eq_some_iff.1 hj).1; have := HLL.out; simp only [Val.l] at *; omega) hj⟩⟩
    · have hz : ln = 0 := by omega
      have hz' : decide ((0 : Int) < (ln : Int)) = false := by simp; omega
      subst hz
      clear hmk hmd
      go_wp2_with fail
      go_meet
      exact ⟨⟨ck, cn, ct, none, 0, 0, none, 0, 0⟩, ((Blk.new_at rfl).alloc _).alloc _, (Blk.new_at (by simp)).alloc _, Blk.new_at (by simp), (((Below.refl _ _).alloc (Nat.le_refl _) _).alloc (by simp) _).alloc (by simp; omega) _, ⟨rfl, rfl, rfl, rfl, rfl, rfl, rfl, rfl⟩, fun _ => rfl, fun h => absurd h (Nat.lt_irrefl 0)⟩
  case rest =>
    obtain ⟨r, I⟩ := hcut
    obtain ⟨rk, rn, rt, rLA, rln, rlc, rDA, rdn, rdc⟩ := r
    have he := I.e
    simp only at he
    obtain ⟨rfl, rfl, rfl, rfl, rfl, rfl, rfl, rfl⟩ := he
    have e4 := I.b0.cell 4
    simp at e4
    have J := Lib.hid I
    clear I hmk
    go_upto_if 42 with fail
    go_cut [] (fun wx => ∃ r mid, CE w (.mk k n t l d) r mid wx)
    case first =>
      by_cases hd0 : 0 < dn
      · obtain ⟨b, off, hDA, _, hel⟩ := HO.out.da hd0
        have hDA' : DA = some ⟨b, off, none⟩ := hDA
        subst hDA'
        have HEL := Lib.hid hel
        clear hDA hel
        have hd : decide (0 < dn) = true := by simpa using hd0
        rw [hd]
        clear hd
        have g0 := J.out.b2.cell 4
        have z0 := J.out.b2.frozen 4
        have l0 := J.out.b0.lt
        have l2 := J.out.b2.lt
        simp at g0
        go_wp2_with fail
        go_loopw [6, 7, 51] (fun v6 v7 v51 wr => ∃ i : Nat, i ≤ dn ∧ v51 = .int .i64 i ∧ CD w ⟨rk, rn, rt, LA, rlc, lc, some ⟨b, off, none⟩, dn, dc⟩ ⟨rk, rn, rt, rLA, rlc, rlc, none, 0, 0⟩ wc.heap.size l d i wr) (fun _ _ v51 _ => dn - (intOf v51).toNat)
        case atStart =>
          refine ⟨0, Nat.zero_le _, rfl, ?_⟩
          exact CD.start J.out
        case round =>
          obtain ⟨i, hi, rfl, I⟩ := hrel
          have J2 := Lib.hid I
          clear g0 z0 e4 hmd
          by_cases hlt : i < dn
          · obtain ⟨f, hf⟩ : ∃ f, d[i]? = some f := ⟨_, List.getElem?_eq_getElem (by have := HDL.out; omega)⟩
            obtain ⟨hs, hz, u, hu, hr⟩ := HEL.out i f hf
            have hr' := hr.lt.step' I.bel
            have s0 := (I.bel.cell (p := ⟨b, off + i * 6, none⟩) hu.lt).trans hs
            obtain ⟨u0, u1, u2, u3, u4⟩ := hu.keep (I.bel.block b hu.lt)
            have HY := Lib.hid hf
            have HR := Lib.hid hr'
            have HC := Lib.hid (HJ.out f (List.mem_of_getElem? hf))
            have hb : b < wr.heap.size := by have := hu.lt; have := I.bel.size; omega
            have r3 := I.b2.cell 4
            simp at r3
            clear hf hr hr' hu I hs hz
            go_wp2_with fail
            have K := J2.out.step ((Below.refl wr.heap.size wr).alloc (Nat.le_refl _) (Obj.cells #[.string f.s, .int .i64 u.k, .int .i64 u.n, .string u.t, .slice u.LA u.ln u.lc, .slice u.DA u.dn u.dc] 98))
            have KB : Blk (wr.alloc (Obj.cells #[.string f.s, .int .i64 u.k, .int .i64 u.n, .string u.t, .slice u.LA u.ln u.lc, .slice u.DA u.dn u.dc] 98)) wr.heap.size 98 #[.string f.s, .int .i64 u.k, .int .i64 u.n, .string u.t, .slice u.LA u.ln u.lc, .slice u.DA u.dn u.dc] := Blk.new_at rfl
            have KR := HR.out.alloc (Obj.cells #[.string f.s, .int .i64 u.k, .int .i64 u.n, .string u.t, .slice u.LA u.ln u.lc, .slice u.DA u.dn u.dc] 98)
            have hga : wc.heap.size < wr.heap.size := J2.out.row.lt
            clear HR u0 u1 u2 u3 u4 r3 s0
            generalize wr.alloc (Obj.cells #[.string f.s, .int .i64 u.k, .int .i64 u.n, .string u.t, .slice u.LA u.ln u.lc, .slice u.DA u.dn u.dc] 98) = wa at *
            generalize wr.heap.size = ga at *
            have hne : wc.heap.size ≠ ga := by omega
            have hne2 : wc.heap.size ≠ w.heap.size + 2 := by omega
            have f0 := KB.cell 0
            have f1 := KB.cell 1
            have f2 := KB.cell 2
            have f3 := KB.cell 3
            have f4 := KB.cell 4
            have f5 := KB.cell 5
            have r3 := K.b2.cell 4
            simp at r3 f0 f1 f2 f3 f4 f5
            have LB := Lib.hid KB
            have LK := Lib.hid K
            have LR := Lib.hid KR
            clear KB K KR
            have hi0 : (0 : Int) ≤ (i : Int) := by omega
            have hi1 : (i : Int) < (dn : Int) := by omega
            go_region_held3 (fun w' => w'.cell? ⟨w.heap.size + 2, 4, none⟩ = some (.slice (some ⟨wc.heap.size, 0, none⟩) dn dn) ∧ w'.cell? ⟨ga, 0, none⟩ = some (.string f.s) ∧ w'.cell? ⟨ga, 1, none⟩ = some (.int .i64 u.k) ∧ w'.cell? ⟨ga, 2, none⟩ = some (.int .i64 u.n) ∧ w'.cell? ⟨ga, 3, none⟩ = some (.string u.t) ∧ w'.cell? ⟨ga, 4, none⟩ = some (.slice u.LA u.ln u.lc) ∧ w'.cell? ⟨ga, 5, none⟩ = some (.slice u.DA u.dn u.dc))
              (first | go_keep | exact ⟨s0, s6, s1, s2, s3, s4, s5⟩ | ((try dsimp only); repeat' apply And.intro; all_goals go_keep))
              ((go_at_call 91; refine (HC.out u _ (LR.out.drewN 1)).mono ?_; rintro e w1 ⟨c', mid, rfl, hcl, hb1⟩; replace hb1 : Below wa.heap.size wa w1 := hb1.undrewN; replace hcl : Cl wa.heap.size mid w1 c' f.v := hcl; have s0 := (hb1.cell (p := ⟨w.heap.size + 2, 4, none⟩) LK.out.b2.lt).trans r3; have s6 := (hb1.cell (p := ⟨ga, 0, none⟩) LB.out.lt).trans f0; have s1 := (hb1.cell (p := ⟨ga, 1, none⟩) LB.out.lt).trans f1; have s2 := (hb1.cell (p := ⟨ga, 2, none⟩) LB.out.lt).trans f2; have s3 := (hb1.cell (p := ⟨ga, 3, none⟩) LB.out.lt).trans f3; have s4 := (hb1.cell (p := ⟨ga, 4, none⟩) LB.out.lt).trans f4; have s5 := (hb1.cell (p := ⟨ga, 5, none⟩) LB.out.lt).trans f5; have row : Row w1 wc.heap.size 98 (dn * 6) := (LK.out.step hb1).row; have z := row.frozen; obtain ⟨o0, p0⟩ := row.cell (i := i * 6) (by omega); obtain ⟨o1, p1⟩ := row.cell (i := i * 6 + 1) (by omega); obtain ⟨o2, p2⟩ := row.cell (i := i * 6 + 2) (by omega); obtain ⟨o3, p3⟩ := row.cell (i := i * 6 + 3) (by omega); obtain ⟨o4, p4⟩ := row.cell (i := i * 6 + 4) (by omega); obtain ⟨o5, p5⟩ := row.cell (i := i * 6 + 5) (by omega); have LC := Lib.hid hcl; have LX := Lib.hid (LK.out.step hb1); clear hcl hb1 row))
            clear s0 s1 s2 s3 s4 s5 s6 p0 p1 p2 p3 p4 p5 z f0 f1 f2 f3 f4 f5 r3
            go_wp2_with fail
            go_roundw
            case rel => exact ⟨i + 1, by omega, by go_num, LX.out.next hlt HY.out (LC.out.rv.mono fun q hq => by have := LK.out.row.lt; omega)⟩
            case measure => simp [intOf]; omega
          · obtain rfl : i = dn := by omega
            go_wp2_with fail
            go_meet
            exact ⟨_, wc.heap.size, CE.of_cd J2.out HO.out (by have := HDL.out; omega) J.out.l0 hd0⟩
      · have hz : dn = 0 := by omega
        subst hz
        clear hmd
        have hd : decide (0 < 0) = false := by decide
        rw [hd]
        clear hd
        go_wp2_with fail
        go_meet
        exact ⟨_, wc.heap.size, CE.of_cst J.out HO.out⟩
    case rest =>
      obtain ⟨r, mid, I⟩ := hcut
      have J3 := Lib.hid I
      obtain ⟨a0, a1, a2, a3, a4⟩ := VAt.of_blk I.b2
      obtain ⟨b0, b1, b2, b3, b4⟩ := VAt.of_blk I.b1
      have z := I.b1.frozen
      clear I e4 hmd
      go_wp2_with fail
      have q := VAt.of_blk (J3.out.b1.putV r)
      refine bodyPost_ret (results_val rfl _ _ _ rfl _ r q) rfl ?_
      exact CE.done J3.out

end Go.Proofs.YtlmmgjgkmbmgpaaGreatDoor


/- Contracts of value.Get and of the reference's at and Get. -/
namespace Go.Proofs.YtlmmgjgkmbmgpaaGreatDoor
open Go.RowKit

theorem findFrom_range (name : ByteArray) (d : List Fld) : ∀ i : Nat, findFrom name d i = -1 ∨ ∃ j : Nat, findFrom name d i = (i + j : Nat) ∧ j < d.length := by
  induction d with
  | nil => intro i; exact .inl rfl
  | cons f r ih =>
    intro i
    simp only [findFrom]
    split
    · exact .inr ⟨0, by simp, by simp⟩
    · rcases ih (i + 1) with h | ⟨j, h1, h2⟩
      · exact .inl h
      · exact .inr ⟨j + 1, by rw [h1]; congr 1; omega, by simp; omega⟩
theorem findI_range (x : Val) (name : ByteArray) : findI x name = -1 ∨ ∃ j : Nat, findI x name = j ∧ ∃ f, x.d[j]? = some f := by
  unfold findI
  split
  · rcases findFrom_range name x.d 0 with h | ⟨j, h1, h2⟩
    · exact .inl h
    · exact .inr ⟨j, by rw [h1]; simp, _, List.getElem?_eq_getElem h2⟩
  · exact .inl rfl

/-- the field that Get returns -/
def getV (x : Val) (name : ByteArray) : Option Val := if 0 ≤ findI x name then (x.d[(findI x name).toNat]?).map Fld.v else none
theorem getV_none {x : Val} {name : ByteArray} (h : findI x name = -1) : getV x name = none := by simp [getV, h]
theorem getV_some {x : Val} {name : ByteArray} {j : Nat} {f : Fld} (h : findI x name = j) (hf : x.d[j]? = some f) : getV x name = some f.v := by
  simp [getV, h, hf]

theorem results_val_ok {fn : Func} {p u : Tmp} (h : fn.results = #[.cell p 46, .tmp u]) (tmps : Array Value) (g1 off : Nat) (h1 : tmps.getD p undef = .pointer (some ⟨g1, off, none⟩)) (e : Value) (h2 : tmps.getD u undef = e)
    (W : World) (v : VC) (q : VAt W g1 off v) : (results fn tmps).run Tryz.prog W = .ok (.tuple #[v.val, e]) W := by
  obtain ⟨q0, q1, q2, q3, q4⟩ := q
  rw [results_cell_tmp h, h1, h2]
  simp [asAddr, go_sem, q0, q1, q2, q3, q4]

/-- what Get hands back: a copy in new memory, from block lo on -/
def GetOk (x : Val) (name : ByteArray) (w : World) (e : Ending) (w' : World) : Prop :=
  ∃ (c : VC), e = .returned (.tuple #[c.val, .bool (getV x name).isSome]) ∧ RV (fun b => w.heap.size ≤ b) w' c ((getV x name).getD Val.zero) ∧ Below w.heap.size w w'

set_option maxHeartbeats 1000000 in
theorem get_any (x : Val) (c : VC) (name : ByteArray) (w : World) (h : RW w c x) :
    Calls Tryz.prog 51 #[c.val, .string name] w (GetOk x name w) := by
  have H := Lib.hid h
  clear h
  go_enter Tryz.func51, Tryz.ntmps51
  go_wp2_with fail
  refine (find_any x c name _ ((H.out.alloc _).alloc _)).mono ?_
  rintro e w1 ⟨rfl, hb⟩
  have B0 : Blk w1 w.heap.size 46 c.arr := ((Blk.new_at rfl).alloc _).step hb
  have B1 : Blk w1 (w.heap.size + 1) 46 VC.zero.arr := (Blk.new_at (by simp)).step hb
  have B2 : Below w.heap.size w w1 := (((Below.refl _ _).alloc (Nat.le_refl _) _).alloc (by simp) _).trans (hb.mono (by simp; omega))
  clear hb
  have J0 := Lib.hid B0
  have J1 := Lib.hid B1
  have J2 := Lib.hid B2
  obtain ⟨b0, b1, b2, b3, b4⟩ := VAt.of_blk B1
  have e4 := B0.cell 4
  have z := B1.frozen
  simp at e4
  clear B0 B1 B2
  rcases findI_range x name with hf | ⟨j, hf, f, hj⟩
  · have HG := Lib.hid (getV_none hf)
    rw [hf]
    clear hf
    go_wp2_with fail
    have q := VAt.of_blk (J1.out.putV VC.zero)
    refine bodyPost_ret (results_val_ok rfl _ _ _ rfl _ rfl _ VC.zero q) rfl ?_
    refine ⟨VC.zero, ?_, ?_, below_setV J2.out (by omega) 0 VC.zero⟩
    · rw [HG.out]; rfl
    · rw [HG.out]; exact RV.zero
  · have HG := Lib.hid (getV_some hf hj)
    rw [hf]
    clear hf
    have ho := H.out.open
    have hjlt : j < c.dn := by have := (List.getElem?_eq_some_iff.1 hj).1; have := ho.dn; omega
    have hdz : c.dn ≤ 140737488355328 := by have := ho.dsz; unfold reach at this; omega
    obtain ⟨b, off, hDA, _, hel⟩ := ho.da (by omega)
    obtain ⟨_, _, u, hu, hr⟩ := hel j f hj
    rw [hDA] at e4
    obtain ⟨u0, u1, u2, u3, u4⟩ := hu.keep (J2.out.block b hu.lt)
    have HR := Lib.hid (hr.lt.step' J2.out)
    clear ho hel hr hu hDA hj
    go_wp2_with fail
    have hlt : w.heap.size + 1 < w1.heap.size := J1.out.lt
    refine (clone_any f.v u _ HR.out).mono ?_
    rintro e w2 ⟨c', mid, rfl, hcl, hb⟩
    have K1 := J1.out.step hb
    have K2 := J2.out.step' hb
    have LC := Lib.hid hcl
    clear b0 b1 b2 b3 b4 z e4 u0 u1 u2 u3 u4 J0 J1 J2 hcl hb HR
    obtain ⟨b0, b1, b2, b3, b4⟩ := VAt.of_blk K1
    have z := K1.frozen
    have L1 := Lib.hid K1
    have L2 := Lib.hid K2
    clear K1 K2
    go_wp2_with fail
    have q := VAt.of_blk (L1.out.putV c')
    refine bodyPost_ret (results_val_ok rfl _ _ _ rfl _ rfl _ c' q) rfl ?_
    refine ⟨c', ?_, ?_, below_setV L2.out (by omega) 0 c'⟩
    · rw [HG.out]; rfl
    · rw [HG.out]
      exact ((LC.out.keep (w' := setV w2 (w.heap.size + 1) 0 c') fun q hq => heap_setV (by omega)).rv).mono fun q hq => by omega

set_option maxHeartbeats 1000000 in
theorem rat_any (x : Val) (c : VC) (name : ByteArray) (w : World) (h : RW w c x) :
    Calls Tryz.prog 120 #[c.val, .string name] w fun e w' => e = .returned (.int .i64 (findI x name)) ∧ Below w.heap.size w w' := by
  have HO := Lib.hid h.open
  clear h
  cases hk : (c.k != 5)
  · have hn : c.dn ≤ 140737488355328 := by have := HO.out.dsz; unfold reach at this; omega
    have HE : Hid (findI x name = findFrom name x.d 0) := by
      have := HO.out.k
      simp at hk
      simp [findI, ← this, hk, Hid]
    go_enter Tryz.func120, Tryz.ntmps120
    go_wp2_with fail
    go_loopw [4, 5] (fun v4 v5 wr => ∃ i : Nat, i ≤ c.dn ∧ v4 = .int .i64 0 ∧ v5 = .int .i64 i ∧ findFrom name x.d 0 = findFrom name (x.d.drop i) i ∧ Blk wr w.heap.size 46 c.arr ∧ Below w.heap.size w wr) (fun _ v5 _ => c.dn - (intOf v5).toNat)
    case atStart => exact ⟨0, Nat.zero_le _, rfl, rfl, rfl, Blk.new_at rfl, (Below.refl _ _).alloc (Nat.le_refl _) _⟩
    case round =>
      obtain ⟨i, hi, rfl, rfl, hall, N1, N2⟩ := hrel
      have e4 := N1.cell 4
      simp at e4
      have HA := Lib.hid hall
      clear hall
      by_cases hlt : i < c.dn
      · obtain ⟨b, off, hDA, _, hel⟩ := HO.out.da (by omega)
        obtain ⟨f, hf⟩ : ∃ f, x.d[i]? = some f := ⟨_, List.getElem?_eq_getElem (by have := HO.out.dn; omega)⟩
        obtain ⟨hs, _, _⟩ := hel i f hf
        have hs' := (N2.cell (p := ⟨b, off + i * 6, none⟩) (World.block_lt_of_cell? w _ hs)).trans hs
        have e4' := e4
        rw [hDA] at e4
        have HD := Lib.hid (drop_of hf)
        have J1 := Lib.hid N1
        have J2 := Lib.hid N2
        clear hs hel hf hDA N1 N2 e4'
        cases hq : (f.s.toList == name.toList)
        · have HF : Hid (findFrom name x.d 0 = findFrom name (x.d.drop (i + 1)) (i + 1)) := by rw [Hid, HA.out, HD.out, findFrom, hq]; rfl
          go_wp2_with fail
          go_roundw
          case rel => exact ⟨i + 1, by omega, rfl, by go_num, HF.out, J1.out, J2.out⟩
          case measure => simp [intOf]; omega
        · have HF : Hid (findFrom name x.d 0 = (i : Int)) := by rw [Hid, HA.out, HD.out, findFrom, hq]; rfl
          go_wp2_with fail
          go_ret
          exact ⟨by rw [HE.out, HF.out]; rfl, J2.out⟩
      · have HF : Hid (findFrom name x.d 0 = -1) := by rw [Hid, HA.out, List.drop_of_length_le (by have := HO.out.dn; omega)]; rfl
        have J2 := Lib.hid N2
        clear N1 N2
        go_wp2_with fail
        go_ret
        exact ⟨by rw [HE.out, HF.out]; rfl, J2.out⟩
  · have HE : Hid (findI x name = -1) := by
      have := HO.out.k
      simp at hk
      simp [findI, ← this, hk, Hid]
    go_enter Tryz.func120, Tryz.ntmps120
    go_wp2_with fail
    go_ret
    exact ⟨by rw [HE.out]; rfl, (Below.refl _ _).alloc (Nat.le_refl _) _⟩

/-- the same, with a footprint -/
def RGetF (F : Nat → Prop) (x : Val) (name : ByteArray) (w : World) (e : Ending) (w' : World) : Prop :=
  ∃ (c : VC), e = .returned (.tuple #[c.val, .bool (getV x name).isSome]) ∧ RV F w' c ((getV x name).getD Val.zero) ∧ Below w.heap.size w w'

set_option maxHeartbeats 1000000 in
theorem rget_fp {F : Nat → Prop} (x : Val) (c : VC) (name : ByteArray) (w : World) (h : RV F w c x) :
    Calls Tryz.prog 78 #[c.val, .string name] w (RGetF F x name w) := by
  have H := Lib.hid h
  clear h
  go_enter Tryz.func78, Tryz.ntmps78
  go_wp2_with fail
  refine (rat_any x c name _ (((H.out.mono fun _ _ => trivial).alloc _).alloc _)).mono ?_
  rintro e w1 ⟨rfl, hb⟩
  have B0 : Blk w1 w.heap.size 46 c.arr := ((Blk.new_at rfl).alloc _).step hb
  have B1 : Blk w1 (w.heap.size + 1) 46 VC.zero.arr := (Blk.new_at (by simp)).step hb
  have B2 : Below w.heap.size w w1 := (((Below.refl _ _).alloc (Nat.le_refl _) _).alloc (by simp) _).trans (hb.mono (by simp; omega))
  clear hb
  have J1 := Lib.hid B1
  have J2 := Lib.hid B2
  obtain ⟨b0, b1, b2, b3, b4⟩ := VAt.of_blk B1
  have e4 := B0.cell 4
  have z := B1.frozen
  simp at e4
  clear B0 B1 B2
  rcases findI_range x name with hf | ⟨j, hf, f, hj⟩
  · have HG := Lib.hid (getV_none hf)
    rw [hf]
    clear hf
    go_wp2_with fail
    have q := VAt.of_blk (J1.out.putV VC.zero)
    refine bodyPost_ret (results_val_ok rfl _ _ _ rfl _ rfl _ VC.zero q) rfl ?_
    refine ⟨VC.zero, ?_, ?_, below_setV J2.out (by omega) 0 VC.zero⟩
    · rw [HG.out]; rfl
    · rw [HG.out]; exact RV.zero
  · have HG := Lib.hid (getV_some hf hj)
    rw [hf]
    clear hf
    have ho := H.out.open
    have hjlt : j < c.dn := by have := (List.getElem?_eq_some_iff.1 hj).1; have := ho.dn; omega
    have hdz : c.dn ≤ 140737488355328 := by have := ho.dsz; unfold reach at this; omega
    obtain ⟨b, off, hDA, _, hel⟩ := ho.da (by omega)
    obtain ⟨_, _, u, hu, hr⟩ := hel j f hj
    rw [hDA] at e4
    obtain ⟨u0, u1, u2, u3, u4⟩ := hu.keep (J2.out.block b hu.lt)
    have HR := Lib.hid (hr.lt.keepG (G := fun q => F q ∧ q < w.heap.size) (w' := setV w1 (w.heap.size + 1) 0 u) fun q hq _ => ⟨hq, by rw [heap_setV (by have := hq.2; omega)]; exact J2.out.block q hq.2⟩)
    clear ho hel hr hu hDA hj
    go_wp2_with fail
    have q := VAt.of_blk (J1.out.putV u)
    refine bodyPost_ret (results_val_ok rfl _ _ _ rfl _ rfl _ u q) rfl ?_
    refine ⟨u, ?_, ?_, below_setV J2.out (by omega) 0 u⟩
    · rw [HG.out]; rfl
    · rw [HG.out]
      exact HR.out.mono fun _ h => h.1

end Go.Proofs.YtlmmgjgkmbmgpaaGreatDoor


/- Slices of values and of fields. -/
namespace Go.Proofs.YtlmmgjgkmbmgpaaGreatDoor
open Go.RowKit

abbrev PV := VC × Val
abbrev PF := VC × Fld
def recV (p : PV) : List Value := p.1.list
def recF (p : PF) : List Value := .string p.2.s :: p.1.list
theorem recV_length (p : PV) : (recV p).length = 5 := rfl
theorem recF_length (p : PF) : (recF p).length = 6 := rfl
theorem recV_one (p : PV) : ∀ u ∈ recV p, u.oneCell' = true := by simp [recV, VC.list, Value.oneCell']
theorem recF_one (p : PF) : ∀ u ∈ recF p, u.oneCell' = true := by simp [recF, VC.list, Value.oneCell']

/-- a slice of values, by its cells and what they read as -/
structure SL (F : Nat → Prop) (w : World) (A : Option Addr) (n c : Nat) (ps : List PV) : Prop where
  sr : SR 5 recV w A n c ps
  sz : n * 80 ≤ reach
  blk : 0 < n → ∃ b off, A = some ⟨b, off, none⟩ ∧ Ft F w b
  rv : ∀ p ∈ ps, RV F w p.1 p.2
/-- a slice of fields -/
structure SD (F : Nat → Prop) (w : World) (A : Option Addr) (n c : Nat) (ps : List PF) : Prop where
  sr : SR 6 recF w A n c ps
  sz : n * 96 ≤ reach
  blk : 0 < n → ∃ b off, A = some ⟨b, off, none⟩ ∧ Ft F w b
  ns : ∀ p ∈ ps, p.2.s.size ≤ reach
  rv : ∀ p ∈ ps, RV F w p.1 p.2.v

section
variable {F G : Nat → Prop} {w w' : World} {A : Option Addr} {n c : Nat}
theorem vat_of {b off : Nat} {u : VC} (h : ∀ (j : Nat) (v : Value), u.list[j]? = some v → w.cell? ⟨b, off + j, none⟩ = some v) : VAt w b off u :=
  ⟨h 0 _ rfl, h 1 _ rfl, h 2 _ rfl, h 3 _ rfl, h 4 _ rfl⟩
theorem vat_cell {b off : Nat} {u : VC} (h : VAt w b off u) : ∀ (j : Nat) (v : Value), u.list[j]? = some v → w.cell? ⟨b, off + j, none⟩ = some v := by
  obtain ⟨h0, h1, h2, h3, h4⟩ := h
  intro j v hj
  match j, hj with
  | 0, hj => simp [VC.list] at hj; subst hj; exact h0
  | 1, hj => simp [VC.list] at hj; subst hj; exact h1
  | 2, hj => simp [VC.list] at hj; subst hj; exact h2
  | 3, hj => simp [VC.list] at hj; subst hj; exact h3
  | 4, hj => simp [VC.list] at hj; subst hj; exact h4
  | j + 5, hj => simp [VC.list] at hj
theorem choose_list {α β : Type} {p : Nat → β → α → Prop} : ∀ {l : List β}, (∀ i y, l[i]? = some y → ∃ u, p i y u) → ∃ ps : List (α × β), ps.map Prod.snd = l ∧ ∀ i q, ps[i]? = some q → p i q.2 q.1 := by
  intro l
  induction l generalizing p with
  | nil => intro _; exact ⟨[], rfl, fun i q h => by simp at h⟩
  | cons y r ih =>
    intro h
    obtain ⟨u, hu⟩ := h 0 y rfl
    obtain ⟨ps, h1, h2⟩ := ih (p := fun i => p (i + 1)) (fun i y hy => h (i + 1) y (by simpa using hy))
    refine ⟨(u, y) :: ps, by simp [h1], fun i q hq => ?_⟩
    cases i with
    | zero => simp at hq; subst hq; exact hu
    | succ i => exact h2 i q (by simpa using hq)
theorem RV.sl {u : VC} {x : Val} (h : RV F w u x) : ∃ ps : List PV, ps.map Prod.snd = x.l ∧ SL F w u.LA u.ln u.lc ps := by
  have ho := h.open
  by_cases hn : 0 < u.ln
  · obtain ⟨b, off, e, hF, hl⟩ := ho.la hn
    obtain ⟨ps, h1, h2⟩ := choose_list hl
    have hlen : u.ln = ps.length := by rw [ho.ln, ← h1]; simp
    refine ⟨ps, h1, ⟨hlen, ho.lc, fun _ => ⟨b, off, e, ?_, fun i a hi j v hj => vat_cell (h2 i a hi).1 j v hj⟩⟩, ho.lsz, fun _ => ⟨b, off, e, hF⟩, fun p hp => ?_⟩
    · obtain ⟨q, hq⟩ : ∃ q, ps[0]? = some q := ⟨_, List.getElem?_eq_getElem (by omega)⟩
      exact (h2 0 q hq).1.lt
    · obtain ⟨i, hi⟩ := List.getElem?_of_mem hp
      exact (h2 i p hi).2
  · have h0 : u.ln = 0 := by omega
    have hx : x.l = [] := List.eq_nil_of_length_eq_zero (by rw [← ho.ln]; exact h0)
    exact ⟨[], by rw [hx]; rfl, ⟨by rw [h0]; rfl, ho.lc, fun h => absurd h hn⟩, ho.lsz, fun h => absurd h hn, fun p hp => by simp at hp⟩
theorem RV.sd {u : VC} {x : Val} (h : RV F w u x) : ∃ ps : List PF, ps.map Prod.snd = x.d ∧ SD F w u.DA u.dn u.dc ps := by
  have ho := h.open
  by_cases hn : 0 < u.dn
  · obtain ⟨b, off, e, hF, hl⟩ := ho.da hn
    obtain ⟨ps, h1, h2⟩ := choose_list (p := fun i (f : Fld) (v : VC) => w.cell? ⟨b, off + i * 6, none⟩ = some (.string f.s) ∧ f.s.size ≤ reach ∧ VAt w b (off + i * 6 + 1) v ∧ RV F w v f.v) (fun i f hf => by
      obtain ⟨h1, h2, v, h3, h4⟩ := hl i f hf
      exact ⟨v, h1, h2, h3, h4⟩)
    have hlen : u.dn = ps.length := by rw [ho.dn, ← h1]; simp
    refine ⟨ps, h1, ⟨hlen, ho.dc, fun _ => ⟨b, off, e, ?_, fun i a hi j v hj => ?_⟩⟩, ho.dsz, fun _ => ⟨b, off, e, hF⟩, fun p hp => ?_, fun p hp => ?_⟩
    · obtain ⟨q, hq⟩ : ∃ q, ps[0]? = some q := ⟨_, List.getElem?_eq_getElem (by omega)⟩
      exact (h2 0 q hq).2.2.1.lt
    · obtain ⟨k0, _, k1, _⟩ := h2 i a hi
      cases j with
      | zero => simp [recF] at hj; subst hj; exact k0
      | succ j =>
        have := vat_cell k1 j v (by simpa [recF] using hj)
        rw [show off + i * 6 + (j + 1) = off + i * 6 + 1 + j by omega]
        exact this
    · obtain ⟨i, hi⟩ := List.getElem?_of_mem hp
      exact (h2 i p hi).2.1
    · obtain ⟨i, hi⟩ := List.getElem?_of_mem hp
      exact (h2 i p hi).2.2.2
  · have h0 : u.dn = 0 := by omega
    have hx : x.d = [] := List.eq_nil_of_length_eq_zero (by rw [← ho.dn]; exact h0)
    exact ⟨[], by rw [hx]; rfl, ⟨by rw [h0]; rfl, ho.dc, fun h => absurd h hn⟩, ho.dsz, fun h => absurd h hn, fun p hp => by simp at hp, fun p hp => by simp at hp⟩
theorem SL.vat {ps : List PV} (h : SL F w A n c ps) {i : Nat} {p : PV} (hi : ps[i]? = some p) : ∃ b off, A = some ⟨b, off, none⟩ ∧ F b ∧ VAt w b (off + i * 5) p.1 ∧ RV F w p.1 p.2 := by
  have hn : 0 < n := by have := (List.getElem?_eq_some_iff.1 hi).1; have := h.sr.ln; omega
  obtain ⟨b, off, e, _, hel⟩ := h.sr.el hn
  obtain ⟨b', off', e', hF⟩ := h.blk hn
  rw [e] at e'
  cases e'
  exact ⟨b, off, e, hF.1, vat_of fun j v hj => hel i p hi j v hj, h.rv p (List.mem_of_getElem? hi)⟩
theorem SD.vat {ps : List PF} (h : SD F w A n c ps) {i : Nat} {p : PF} (hi : ps[i]? = some p) : ∃ b off, A = some ⟨b, off, none⟩ ∧ F b ∧ w.cell? ⟨b, off + i * 6, none⟩ = some (.string p.2.s) ∧ VAt w b (off + i * 6 + 1) p.1 ∧ RV F w p.1 p.2.v := by
  have hn : 0 < n := by have := (List.getElem?_eq_some_iff.1 hi).1; have := h.sr.ln; omega
  obtain ⟨b, off, e, _, hel⟩ := h.sr.el hn
  obtain ⟨b', off', e', hF⟩ := h.blk hn
  rw [e] at e'
  cases e'
  refine ⟨b, off, e, hF.1, hel i p hi 0 _ rfl, vat_of fun j v hj => ?_, h.rv p (List.mem_of_getElem? hi)⟩
  have := hel i p hi (j + 1) v (by simpa [recF] using hj)
  rw [show off + i * 6 + 1 + j = off + i * 6 + (j + 1) by omega]
  exact this
theorem SL.step {ps : List PV} (h : SL F w A n c ps) (hb : Below w.heap.size w w') : SL F w' A n c ps := ⟨h.sr.step hb, h.sz, fun hn => by
  obtain ⟨b, off, e, hF⟩ := h.blk hn
  obtain ⟨b', off', e', hl, _⟩ := h.sr.el hn
  rw [e] at e'
  cases e'
  exact ⟨b, off, e, hF.keepG hl fun q hq hql => ⟨hq, hb.block q hql⟩⟩, fun p hp => (h.rv p hp).step hb⟩
theorem SD.step {ps : List PF} (h : SD F w A n c ps) (hb : Below w.heap.size w w') : SD F w' A n c ps := ⟨h.sr.step hb, h.sz, fun hn => by
  obtain ⟨b, off, e, hF⟩ := h.blk hn
  obtain ⟨b', off', e', hl, _⟩ := h.sr.el hn
  rw [e] at e'
  cases e'
  exact ⟨b, off, e, hF.keepG hl fun q hq hql => ⟨hq, hb.block q hql⟩⟩, h.ns, fun p hp => (h.rv p hp).step hb⟩
theorem SL.mono {ps : List PV} (h : SL F w A n c ps) (hk : ∀ b, F b → G b) : SL G w A n c ps := ⟨h.sr, h.sz, fun hn => by obtain ⟨b, off, e, hF⟩ := h.blk hn; exact ⟨b, off, e, hk b hF.1, fun hG => hF.2 fun h0 => hG (hk 0 h0)⟩, fun p hp => (h.rv p hp).mono hk⟩
theorem SD.mono {ps : List PF} (h : SD F w A n c ps) (hk : ∀ b, F b → G b) : SD G w A n c ps := ⟨h.sr, h.sz, fun hn => by obtain ⟨b, off, e, hF⟩ := h.blk hn; exact ⟨b, off, e, hk b hF.1, fun hG => hF.2 fun h0 => hG (hk 0 h0)⟩, h.ns, fun p hp => (h.rv p hp).mono hk⟩
theorem SL.nil : SL F w none 0 0 [] := ⟨SR.nil, by decide, fun h => absurd h (Nat.lt_irrefl 0), fun p hp => by simp at hp⟩
theorem SD.nil : SD F w none 0 0 [] := ⟨SR.nil, by decide, fun h => absurd h (Nat.lt_irrefl 0), fun p hp => by simp at hp, fun p hp => by simp at hp⟩
theorem SL.of_own {base : Nat} {t : TypeId} {v : Value} {ps : List PV} (h : w.ownsRow base t 5 v n (flat recV ps)) (hl : ps.length = n) (hz : n * 80 ≤ reach) (hF : ∀ b, base ≤ b → F b) (hr : ∀ p ∈ ps, RV F w p.1 p.2) : ∃ A c, v = .slice A n c ∧ SL F w A n c ps := by
  obtain ⟨A, c, rfl, hs⟩ := SR.of_own recV_length h hl
  refine ⟨A, c, rfl, hs, hz, fun hn => ?_, hr⟩
  obtain ⟨b, off, rfl, _⟩ := hs.el hn
  rcases h.2 with ⟨h', _⟩ | ⟨g, cap, cur, hv, hg, hbl, _⟩
  · cases h'
  · cases hv
    exact ⟨b, 0, rfl, hF b hg, fun _ i => Blk.frozen (t := t) (cs := cur) hbl i⟩
theorem SD.of_own {base : Nat} {t : TypeId} {v : Value} {ps : List PF} (h : w.ownsRow base t 6 v n (flat recF ps)) (hl : ps.length = n) (hz : n * 96 ≤ reach) (hF : ∀ b, base ≤ b → F b) (hs : ∀ p ∈ ps, p.2.s.size ≤ reach) (hr : ∀ p ∈ ps, RV F w p.1 p.2.v) : ∃ A c, v = .slice A n c ∧ SD F w A n c ps := by
  obtain ⟨A, c, rfl, hsr⟩ := SR.of_own recF_length h hl
  refine ⟨A, c, rfl, hsr, hz, fun hn => ?_, hs, hr⟩
  obtain ⟨b, off, rfl, _⟩ := hsr.el hn
  rcases h.2 with ⟨h', _⟩ | ⟨g, cap, cur, hv, hg, hbl, _⟩
  · cases h'
  · cases hv
    exact ⟨b, 0, rfl, hF b hg, fun _ i => Blk.frozen (t := t) (cs := cur) hbl i⟩
end
end Go.Proofs.YtlmmgjgkmbmgpaaGreatDoor

