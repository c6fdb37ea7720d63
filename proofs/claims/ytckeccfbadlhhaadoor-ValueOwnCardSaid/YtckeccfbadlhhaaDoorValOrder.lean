/- The order of values is total; valid values that compare equal are identical. -/
import Derived.Test.YtckeccfbadlhhaaDoorValCmpPure
import Derived.Test.YtckeccfbadlhhaaDoorValSoundPure
namespace Go.Proofs.YtckeccfbadlhhaaDoor

/-- three results of a comparison fit -/
def TR (a b c : Int) : Prop := a ≤ 0 → b ≤ 0 → c ≤ 0 ∧ (c = 0 ↔ a = 0 ∧ b = 0)
def lex (c d : Int) : Int := if c ≠ 0 then c else d
theorem lex_eq (c d : Int) : (if c ≠ 0 then c else d) = lex c d := rfl
theorem lex_ways (c d : Int) : c ≠ 0 ∧ lex c d = c ∨ c = 0 ∧ lex c d = d := by
  unfold lex
  by_cases h : c = 0
  · exact .inr ⟨h, by simp [h]⟩
  · exact .inl ⟨h, by simp [h]⟩
theorem TR.lx {a b c a' b' c' : Int} (h : TR a b c) (h' : TR a' b' c') : TR (lex a a') (lex b b') (lex c c') := by
  intro h1 h2
  rcases lex_ways a a' with ha | ha <;> rcases lex_ways b b' with hb | hb <;> rcases lex_ways c c' with hc | hc
  all_goals
    have H := h (by omega) (by omega)
    by_cases hab : a = 0 ∧ b = 0
    · have H' := h' (by omega) (by omega)
      omega
    · omega
theorem cmpI_rng (a b : Int) : -1 ≤ cmpI a b ∧ cmpI a b ≤ 1 := by unfold cmpI Lib.compareInt; repeat' split <;> omega
theorem cmpI_anti (a b : Int) : cmpI b a = -cmpI a b := by unfold cmpI Lib.compareInt; repeat' split <;> omega
theorem cmpI_ways (a b : Int) : a < b ∧ cmpI a b = -1 ∨ a = b ∧ cmpI a b = 0 ∨ b < a ∧ cmpI a b = 1 := by unfold cmpI Lib.compareInt; repeat' split <;> omega
theorem cmpI_tr (a b c : Int) : TR (cmpI a b) (cmpI b c) (cmpI a c) := by
  unfold TR
  intro h1 h2
  rcases cmpI_ways a b with h | h | h <;> rcases cmpI_ways b c with h' | h' | h' <;> rcases cmpI_ways a c with h3 | h3 | h3 <;> omega
theorem cmpI_zero {a b : Int} : cmpI a b = 0 ↔ a = b := by unfold cmpI Lib.compareInt; repeat' split <;> omega
theorem cmpBy_rng : ∀ a b : List UInt8, -1 ≤ Lib.compareBytes a b ∧ Lib.compareBytes a b ≤ 1
  | [], [] => by simp [Lib.compareBytes]
  | [], _ :: _ => by simp [Lib.compareBytes]
  | _ :: _, [] => by simp [Lib.compareBytes]
  | a :: a2, b :: b2 => by
    rw [Lib.compareBytes]
    repeat' split
    · omega
    · omega
    · exact cmpBy_rng a2 b2
theorem cmpBy_lex (a b : UInt8) (l m : List UInt8) : Lib.compareBytes (a :: l) (b :: m) = lex (cmpI (a.toNat : Int) (b.toNat : Int)) (Lib.compareBytes l m) := by
  rw [Lib.compareBytes]
  unfold cmpI Lib.compareInt lex
  have e1 : a < b ↔ a.toNat < b.toNat := UInt8.lt_iff_toNat_lt
  have e2 : b < a ↔ b.toNat < a.toNat := UInt8.lt_iff_toNat_lt
  rcases Nat.lt_trichotomy a.toNat b.toNat with h | h | h
  · rw [if_pos (e1.2 h), if_pos (show (a.toNat : Int) < b.toNat by omega)]; rfl
  · rw [if_neg (by rw [e1]; omega), if_neg (by rw [e2]; omega), if_neg (show ¬ (a.toNat : Int) < b.toNat by omega), if_neg (show ¬ (a.toNat : Int) > b.toNat by omega)]; rfl
  · rw [if_neg (by rw [e1]; omega), if_pos (e2.2 h), if_neg (show ¬ (a.toNat : Int) < b.toNat by omega), if_pos (show (a.toNat : Int) > b.toNat by omega)]; rfl
theorem lex_anti {c d c' d' : Int} (h : c' = -c) (h' : d' = -d) : lex c' d' = -lex c d := by unfold lex; repeat' split <;> omega
theorem lex_rng {c d : Int} (h : -1 ≤ c ∧ c ≤ 1) (h' : -1 ≤ d ∧ d ≤ 1) : -1 ≤ lex c d ∧ lex c d ≤ 1 := by unfold lex; split <;> omega
theorem lex_zero {c d : Int} : lex c d = 0 ↔ c = 0 ∧ d = 0 := by unfold lex; split <;> omega
theorem cmpBy_anti : ∀ a b : List UInt8, Lib.compareBytes b a = -Lib.compareBytes a b
  | [], [] => by simp [Lib.compareBytes]
  | [], _ :: _ => by simp [Lib.compareBytes]
  | _ :: _, [] => by simp [Lib.compareBytes]
  | a :: a2, b :: b2 => by rw [cmpBy_lex, cmpBy_lex]; exact lex_anti (cmpI_anti _ _) (cmpBy_anti a2 b2)
theorem cmpBy_tr : ∀ a b c : List UInt8, TR (Lib.compareBytes a b) (Lib.compareBytes b c) (Lib.compareBytes a c)
  | [], [], [] => by simp [Lib.compareBytes, TR]
  | [], [], _ :: _ => by simp [Lib.compareBytes, TR]
  | [], _ :: _, [] => by simp [Lib.compareBytes, TR]
  | [], _ :: _, _ :: _ => by simp [Lib.compareBytes, TR]
  | _ :: _, [], [] => by simp [Lib.compareBytes, TR]
  | _ :: _, [], _ :: _ => by simp [Lib.compareBytes, TR]
  | _ :: _, _ :: _, [] => by simp [Lib.compareBytes, TR]
  | a :: a2, b :: b2, c :: c2 => by
    rw [cmpBy_lex, cmpBy_lex, cmpBy_lex]
    exact (cmpI_tr _ _ _).lx (cmpBy_tr a2 b2 c2)
theorem cmpBy_zero : ∀ a b : List UInt8, Lib.compareBytes a b = 0 ↔ a = b
  | [], [] => by simp [Lib.compareBytes]
  | [], _ :: _ => by simp [Lib.compareBytes]
  | _ :: _, [] => by simp [Lib.compareBytes]
  | a :: a2, b :: b2 => by
    rw [cmpBy_lex, lex_zero, cmpI_zero, cmpBy_zero a2 b2]
    constructor
    · rintro ⟨h1, rfl⟩
      rw [show a = b from UInt8.toNat_inj.1 (by omega)]
    · intro h
      injection h with h1 h2
      exact ⟨by rw [h1], h2⟩
theorem cmpB_zero {a b : ByteArray} : cmpB a b = 0 ↔ a = b := by
  unfold cmpB
  rw [cmpBy_zero]
  exact ⟨fun h => Go.WideShapes.bytes_inj h, fun h => by rw [h]⟩

/-- what holds of the comparison with a value -/
structure OrdAt (x : Val) : Prop where
  rng : ∀ y, -1 ≤ cmpV x y ∧ cmpV x y ≤ 1
  anti : ∀ y, cmpV y x = -cmpV x y
  tr : ∀ y z, TR (cmpV x y) (cmpV y z) (cmpV x z)
structure OrdL (l : List Val) : Prop where
  rng : ∀ m, -1 ≤ cmpL l m ∧ cmpL l m ≤ 1
  anti : ∀ m, cmpL m l = -cmpL l m
  tr : ∀ m n, TR (cmpL l m) (cmpL m n) (cmpL l n)
structure OrdD (l : List Fld) : Prop where
  rng : ∀ m, -1 ≤ cmpD l m ∧ cmpD l m ≤ 1
  anti : ∀ m, cmpD m l = -cmpD l m
  tr : ∀ m n, TR (cmpD l m) (cmpD m n) (cmpD l n)
theorem cmpF_lex (f g : Fld) : cmpF f g = lex (cmpB f.s g.s) (cmpV f.v g.v) := by rw [cmpF_eq]; rfl
theorem cmpL_cons (x y : Val) (r s : List Val) : cmpL (x :: r) (y :: s) = lex (cmpV x y) (cmpL r s) := by rw [cmpL]; rfl
theorem cmpD_cons (x y : Fld) (r s : List Fld) : cmpD (x :: r) (y :: s) = lex (cmpF x y) (cmpD r s) := by rw [cmpD]; rfl
theorem ordL : ∀ l : List Val, (∀ x ∈ l, OrdAt x) → OrdL l := by
  intro l
  induction l with
  | nil =>
    intro _
    refine ⟨fun m => ?_, fun m => ?_, fun m n => ?_⟩
    · cases m <;> simp [cmpL]
    · cases m <;> simp [cmpL]
    · cases m <;> cases n <;> simp [cmpL, TR]
  | cons x r ih =>
    intro h
    have hx := h x (by simp)
    have hr := ih fun y hy => h y (by simp [hy])
    refine ⟨fun m => ?_, fun m => ?_, fun m n => ?_⟩
    · cases m with
      | nil => simp [cmpL]
      | cons y s => rw [cmpL_cons]; exact lex_rng (hx.rng y) (hr.rng s)
    · cases m with
      | nil => simp [cmpL]
      | cons y s => rw [cmpL_cons, cmpL_cons]; exact lex_anti (hx.anti y) (hr.anti s)
    · cases m with
      | nil => cases n <;> simp [cmpL, TR]
      | cons y s =>
        cases n with
        | nil => simp [cmpL, TR]
        | cons z t =>
          rw [cmpL_cons, cmpL_cons, cmpL_cons]
          exact (hx.tr y z).lx (hr.tr s t)
theorem cmpB_rng (a b : ByteArray) : -1 ≤ cmpB a b ∧ cmpB a b ≤ 1 := cmpBy_rng _ _
theorem cmpB_anti (a b : ByteArray) : cmpB b a = -cmpB a b := cmpBy_anti _ _
theorem cmpB_tr (a b c : ByteArray) : TR (cmpB a b) (cmpB b c) (cmpB a c) := cmpBy_tr _ _ _
theorem ordD : ∀ l : List Fld, (∀ f ∈ l, OrdAt f.v) → OrdD l := by
  intro l
  induction l with
  | nil =>
    intro _
    refine ⟨fun m => ?_, fun m => ?_, fun m n => ?_⟩
    · cases m <;> simp [cmpD]
    · cases m <;> simp [cmpD]
    · cases m <;> cases n <;> simp [cmpD, TR]
  | cons x r ih =>
    intro h
    have hx := h x (by simp)
    have hr := ih fun y hy => h y (by simp [hy])
    refine ⟨fun m => ?_, fun m => ?_, fun m n => ?_⟩
    · cases m with
      | nil => simp [cmpD]
      | cons y s => rw [cmpD_cons, cmpF_lex]; exact lex_rng (lex_rng (cmpB_rng _ _) (hx.rng y.v)) (hr.rng s)
    · cases m with
      | nil => simp [cmpD]
      | cons y s => rw [cmpD_cons, cmpD_cons, cmpF_lex, cmpF_lex]; exact lex_anti (lex_anti (cmpB_anti _ _) (hx.anti y.v)) (hr.anti s)
    · cases m with
      | nil => cases n <;> simp [cmpD, TR]
      | cons y s =>
        cases n with
        | nil => simp [cmpD, TR]
        | cons z t =>
          rw [cmpD_cons, cmpD_cons, cmpD_cons, cmpF_lex, cmpF_lex, cmpF_lex]
          exact ((cmpB_tr _ _ _).lx (hx.tr y.v z.v)).lx (hr.tr s t)
/-- the comparison of values of one kind -/
def cmpK (x y : Val) : Int := if x.k = 3 ∨ x.k = 9 ∨ x.k = 10 then cmpI x.n y.n else if x.k = 4 ∨ x.k = 7 ∨ x.k = 8 then cmpB x.t y.t else if x.k = 6 then cmpL x.l y.l else if x.k = 5 then cmpD x.d y.d else 0
theorem cmpV_K {x y : Val} (h : x.k = y.k) : cmpV x y = cmpK x y := by rw [cmpV_eq, if_neg (by simpa using h)]; rfl
theorem ordAt : ∀ x, OrdAt x := by
  intro x
  induction x using Val.ind with
  | h k n t l d ihl ihd =>
  have hL := ordL l ihl
  have hD := ordD d ihd
  have rK : ∀ y, -1 ≤ cmpK (.mk k n t l d) y ∧ cmpK (.mk k n t l d) y ≤ 1 := by
    intro y
    unfold cmpK
    split
    · exact cmpI_rng _ _
    · split
      · exact cmpB_rng _ _
      · split
        · exact hL.rng y.l
        · split
          · exact hD.rng y.d
          · omega
  have aK : ∀ y, y.k = k → cmpK y (.mk k n t l d) = -cmpK (.mk k n t l d) y := by
    intro y hy
    unfold cmpK
    rw [hy]
    simp only [show (Val.mk k n t l d).k = k from rfl]
    split
    · exact cmpI_anti _ _
    · split
      · exact cmpB_anti _ _
      · split
        · exact hL.anti y.l
        · split
          · exact hD.anti y.d
          · rfl
  have tK : ∀ y z, y.k = k → TR (cmpK (.mk k n t l d) y) (cmpK y z) (cmpK (.mk k n t l d) z) := by
    intro y z hy
    unfold cmpK
    rw [hy]
    simp only [show (Val.mk k n t l d).k = k from rfl]
    split
    · exact cmpI_tr _ _ _
    · split
      · exact cmpB_tr _ _ _
      · split
        · exact hL.tr y.l z.l
        · split
          · exact hD.tr y.d z.d
          · simp [TR]
  refine ⟨fun y => ?_, fun y => ?_, fun y z => ?_⟩
  · by_cases h : (Val.mk k n t l d).k = y.k
    · rw [cmpV_K h]; exact rK y
    · rw [cmpV_kind h]; exact cmpI_rng _ _
  · by_cases h : (Val.mk k n t l d).k = y.k
    · rw [cmpV_K h, cmpV_K h.symm]; exact aK y h.symm
    · rw [cmpV_kind h, cmpV_kind (fun e => h e.symm)]; exact cmpI_anti _ _
  · intro h1 h2
    have hk : (Val.mk k n t l d).k = k := rfl
    have ek : cmpI k y.k ≤ 0 := by
      by_cases h : k = y.k
      · rw [cmpI_zero.2 h]; omega
      · rw [cmpV_kind (by rw [hk]; exact h)] at h1; exact h1
    have ek2 : cmpI y.k z.k ≤ 0 := by
      by_cases h : y.k = z.k
      · rw [cmpI_zero.2 h]; omega
      · rw [cmpV_kind h] at h2; exact h2
    have ek3 := cmpI_tr k y.k z.k ek ek2
    by_cases h : k = y.k
    · by_cases h' : y.k = z.k
      · rw [cmpV_K (y := y) (by rw [hk]; exact h)] at h1 ⊢
        rw [cmpV_K h'] at h2 ⊢
        rw [cmpV_K (y := z) (by rw [hk]; omega)]
        exact tK y z h.symm h1 h2
      · have h3 : k ≠ z.k := by omega
        rw [cmpV_kind h'] at h2 ⊢
        rw [cmpV_kind (y := z) (by rw [hk]; exact h3), hk, ← h]
        have := fun e => h3 (cmpI_zero.1 e)
        rw [← h] at h2
        refine ⟨h2, fun e => absurd e this, fun e => absurd e.2 this⟩
    · have h3 : cmpI k y.k ≠ 0 := fun e => h (cmpI_zero.1 e)
      have h4 : cmpI k z.k ≠ 0 := fun e => h3 (ek3.2.1 e).1
      have e1 : cmpV (.mk k n t l d) y = cmpI k y.k := cmpV_kind (by rw [hk]; exact h)
      have e2 : cmpV (.mk k n t l d) z = cmpI k z.k := cmpV_kind (by rw [hk]; exact fun e => h4 (cmpI_zero.2 e))
      rw [e1, e2]
      exact ⟨ek3.1, fun e => absurd e h4, fun e => absurd e.1 h3⟩
theorem cmpV_rng (x y : Val) : -1 ≤ cmpV x y ∧ cmpV x y ≤ 1 := (ordAt x).rng y
theorem cmpV_anti (x y : Val) : cmpV y x = -cmpV x y := (ordAt x).anti y
theorem cmpV_tr (x y z : Val) : TR (cmpV x y) (cmpV y z) (cmpV x z) := (ordAt x).tr y z
theorem cmpV_self (x : Val) : cmpV x x = 0 := by have := cmpV_anti x x; omega

/-- sound values that compare equal are identical -/
theorem cmpL_eq {l : List Val} : ∀ {m : List Val}, (∀ x ∈ l, ∀ y, cmpV x y = 0 → y ∈ m → x = y) → cmpL l m = 0 → l = m := by
  induction l with
  | nil => intro m _ h; cases m with
    | nil => rfl
    | cons y s => simp [cmpL] at h
  | cons x r ih =>
    intro m hx h
    cases m with
    | nil => simp [cmpL] at h
    | cons y s =>
      rw [cmpL_cons, lex_zero] at h
      rw [hx x (by simp) y h.1 (by simp), ih (fun a ha b hb hm => hx a (by simp [ha]) b hb (by simp [hm])) h.2]
theorem cmpD_eq {l : List Fld} : ∀ {m : List Fld}, (∀ x ∈ l, ∀ y, cmpV x.v y.v = 0 → y ∈ m → x.v = y.v) → cmpD l m = 0 → l = m := by
  induction l with
  | nil => intro m _ h; cases m with
    | nil => rfl
    | cons y s => simp [cmpD] at h
  | cons x r ih =>
    intro m hx h
    cases m with
    | nil => simp [cmpD] at h
    | cons y s =>
      rw [cmpD_cons, lex_zero, cmpF_lex, lex_zero] at h
      have e1 : x.s = y.s := cmpB_zero.1 h.1.1
      have e2 : x.v = y.v := hx x (by simp) y h.1.2 (by simp)
      have e : x = y := by cases x; cases y; simp only [Fld.s, Fld.v] at e1 e2; rw [e1, e2]
      rw [e, ih (fun a ha b hb hm => hx a (by simp [ha]) b hb (by simp [hm])) h.2]
theorem cmpV_same {nm : ByteArray → Bool} : ∀ x y : Val, SoundV nm x → SoundV nm y → cmpV x y = 0 → x = y := by
  intro x
  induction x using Val.ind with
  | h k n t l d ihl ihd =>
  intro y hx hy h
  obtain ⟨hx0, hx1, hx2, _⟩ := (SoundV_iff nm _).1 hx
  obtain ⟨hy0, hy1, hy2, _⟩ := (SoundV_iff nm _).1 hy
  have hk : k = y.k := by
    by_cases e : (Val.mk k n t l d).k = y.k
    · exact e
    · rw [cmpV_kind e] at h; exact absurd (cmpI_zero.1 h) e
  cases y with
  | mk k' n' t' l' d' =>
  simp only [Val.k, Val.n, Val.t, Val.l, Val.d] at *
  subst hk
  have h' : (if k = 3 ∨ k = 9 ∨ k = 10 then cmpI n n' else if k = 4 ∨ k = 7 ∨ k = 8 then cmpB t t' else if k = 6 then cmpL l l' else if k = 5 then cmpD d d' else 0) = 0 := (cmpV_K (x := .mk k n t l d) (y := .mk k n' t' l' d') rfl).symm.trans h
  have nil : ∀ {α : Type} {a b : List α}, a.length = 0 → b.length = 0 → a = b := fun ha hb => by rw [List.eq_nil_of_length_eq_zero ha, List.eq_nil_of_length_eq_zero hb]
  have emp : ∀ {a b : ByteArray}, a.size = 0 → b.size = 0 → a = b := fun {a b} ha hb => Go.WideShapes.bytes_inj (by
    rw [List.eq_nil_of_length_eq_zero (l := a.data.toList) (by simpa using ha), List.eq_nil_of_length_eq_zero (l := b.data.toList) (by simpa using hb)])
  obtain ⟨a1, a2, a3, a4, _⟩ := hx0
  obtain ⟨b1, b2, b3, b4, _⟩ := hy0
  split at h'
  · rename_i hi
    rw [cmpI_zero.1 h', emp (a := t) (b := t') (by omega) (by omega), nil (a := l) (b := l') (by omega) (by omega), nil (a := d) (b := d') (by omega) (by omega)]
  · split at h'
    · rename_i hi ht
      rw [show n = n' by omega, cmpB_zero.1 h', nil (a := l) (b := l') (by omega) (by omega), nil (a := d) (b := d') (by omega) (by omega)]
    · split at h'
      · rename_i hi ht h6
        rw [show n = n' by omega, emp (a := t) (b := t') (by omega) (by omega), nil (a := d) (b := d') (by omega) (by omega),
          cmpL_eq (fun a ha b hb hm => ihl a ha b (hx1 a ha) (hy1 b hm) hb) h']
      · split at h'
        · rename_i hi ht h6 h5
          rw [show n = n' by omega, emp (a := t) (b := t') (by omega) (by omega), nil (a := l) (b := l') (by omega) (by omega),
            cmpD_eq (fun a ha b hb hm => ihd a ha b.v (hx2 a ha) (hy2 b hm) hb) h']
        · rw [show n = n' by omega, emp (a := t) (b := t') (by omega) (by omega), nil (a := l) (b := l') (by omega) (by omega), nil (a := d) (b := d') (by omega) (by omega)]

end Go.Proofs.YtckeccfbadlhhaaDoor
