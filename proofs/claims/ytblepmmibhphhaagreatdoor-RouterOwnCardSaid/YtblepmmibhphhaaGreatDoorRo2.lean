/- Parts of the proof, joined: ChLawA, ChRefA, RoCheck. -/
import Derived.Test.YtblepmmibhphhaaGreatDoorB18
import Derived.Test.YtblepmmibhphhaaGreatDoorRo1
/- Chunks: the plain law. Valid routes, and what the changes keep. · The contract of chunks.Version. · The contract of few. · A store of routes into a block of zeroed routes does not touch routes whose paths are valid. · The plain law of ChunksBack: Join undoes Split. · The plain law of ChunksKeeps: a change of valid routes gives valid ones and keeps the shards of other keys. -/
namespace Go.Proofs.YtblepmmibhphhaaGreatDoor
open Go.RowKit

abbrev BK := List UInt8
theorem bl_nil (x : BK) : Op.bytesLess x [] = false := by cases x <;> rfl
theorem bl_irr : ∀ x : BK, Op.bytesLess x x = false
  | [] => rfl
  | a :: r => by simp [Op.bytesLess, bl_irr r]
theorem bl_cons (a b : UInt8) (x y : BK) : Op.bytesLess (a :: x) (b :: y) = true ↔ a.toNat < b.toNat ∨ (a = b ∧ Op.bytesLess x y = true) := by
  simp [Op.bytesLess, UInt8.lt_iff_toNat_lt]
theorem bl_tr : ∀ {x y z : BK}, Op.bytesLess x y = true → Op.bytesLess y z = true → Op.bytesLess x z = true
  | _, _, [], _, h => by rw [bl_nil] at h; cases h
  | _, [], _ :: _, h, _ => by rw [bl_nil] at h; cases h
  | [], _ :: _, _ :: _, _, _ => rfl
  | a :: x, b :: y, c :: z, h, k => by
    rw [bl_cons] at h k ⊢
    rcases h with h | ⟨rfl, h⟩ <;> rcases k with k | ⟨rfl, k⟩
    · exact .inl (by omega)
    · exact .inl h
    · exact .inl k
    · exact .inr ⟨rfl, bl_tr h k⟩
theorem bl_tri : ∀ (x y : BK), Op.bytesLess x y = true ∨ x = y ∨ Op.bytesLess y x = true
  | [], [] => .inr (.inl rfl)
  | [], _ :: _ => .inl rfl
  | _ :: _, [] => .inr (.inr rfl)
  | a :: x, b :: y => by
    rw [bl_cons, bl_cons]
    rcases Nat.lt_trichotomy a.toNat b.toNat with h | h | h
    · exact .inl (.inl h)
    · have hab : a = b := UInt8.toNat_inj.1 h
      subst hab
      rcases bl_tri x y with h | rfl | h
      · exact .inl (.inr ⟨rfl, h⟩)
      · exact .inr (.inl rfl)
      · exact .inr (.inr (.inr ⟨rfl, h⟩))
    · exact .inr (.inr (.inl h))
/-- x is not above y, y is below z -/
theorem bl_le_lt {x y z : BK} (h : Op.bytesLess y x = false) (k : Op.bytesLess y z = true) : Op.bytesLess x z = true := by
  rcases bl_tri x y with h1 | rfl | h1
  · exact bl_tr h1 k
  · exact k
  · rw [h] at h1; cases h1
theorem bl_lt_le {x y z : BK} (h : Op.bytesLess x y = true) (k : Op.bytesLess z y = false) : Op.bytesLess x z = true := by
  rcases bl_tri y z with h1 | rfl | h1
  · exact bl_tr h h1
  · exact h
  · rw [k] at h1; cases h1
theorem bl_asym {x y : BK} (h : Op.bytesLess x y = true) : Op.bytesLess y x = false := by
  cases h1 : Op.bytesLess y x
  · rfl
  · have := bl_tr h h1; rw [bl_irr] at this; cases this

/-- the end of a chunk: none is no bound -/
def hiO (c : Ch) : Option BK := if c.hi.toList = [] then none else some c.hi.toList
def ltO (x : BK) : Option BK → Prop
  | none => True
  | some y => Op.bytesLess x y = true
/-- chunks that follow each other from a to b -/
def Cn : Option BK → Option BK → List Ch → Prop
  | a, b, [] => a = b
  | a, b, c :: r => a = some c.lo.toList ∧ ltO c.lo.toList (hiO c) ∧ Cn (hiO c) b r
theorem Cn.app : ∀ {l m : List Ch} {a b c : Option BK}, Cn a b l → Cn b c m → Cn a c (l ++ m)
  | [], _, _, _, _, rfl, k => k
  | _ :: _, _, _, _, _, ⟨h1, h2, h3⟩, k => ⟨h1, h2, Cn.app h3 k⟩
theorem Cn.split : ∀ {l m : List Ch} {a c : Option BK}, Cn a c (l ++ m) → ∃ b, Cn a b l ∧ Cn b c m
  | [], _, a, _, h => ⟨a, rfl, h⟩
  | _ :: _, _, _, _, ⟨h1, h2, h3⟩ => by
    obtain ⟨b, k1, k2⟩ := Cn.split h3
    exact ⟨b, ⟨h1, h2, k1⟩, k2⟩
theorem inB_iff (key : ByteArray) (c : Ch) : inB key c = true ↔ Op.bytesLess key.toList c.lo.toList = false ∧ ltO key.toList (hiO c) := by
  unfold inB hiO
  by_cases h : c.hi.toList = []
  · simp [h, ltO]
  · simp [h, ltO]
/-- every key from a on has a chunk -/
theorem Cn.ex (key : ByteArray) : ∀ {l : List Ch} {a : BK} {b : Option BK}, Cn (some a) b l → Op.bytesLess key.toList a = false → ltO key.toList b → ∃ c ∈ l, inB key c = true
  | [], a, b, h, h1, h2 => by
    have h : some a = b := h
    subst h
    simp only [ltO] at h2
    rw [h1] at h2
    cases h2
  | c :: r, a, b, ⟨e1, e2, e3⟩, h1, h2 => by
    injection e1 with e1
    subst e1
    by_cases hk : ltO key.toList (hiO c)
    · exact ⟨c, List.mem_cons_self, (inB_iff key c).2 ⟨h1, hk⟩⟩
    · cases ho : hiO c with
      | none => rw [ho] at hk; exact absurd trivial hk
      | some y =>
        rw [ho] at hk e3
        obtain ⟨d, m1, m2⟩ := Cn.ex key e3 (by simpa [ltO] using hk) h2
        exact ⟨d, List.mem_cons_of_mem _ m1, m2⟩
theorem Cn.ge : ∀ {l : List Ch} {a : BK} {b : Option BK}, Cn (some a) b l → ∀ c ∈ l, Op.bytesLess c.lo.toList a = false
  | c :: r, a, b, ⟨e1, e2, e3⟩, d, hd => by
    injection e1 with e1
    subst e1
    rcases List.mem_cons.1 hd with rfl | hd
    · exact bl_irr _
    · cases ho : hiO c with
      | none =>
        rw [ho] at e3
        cases r with
        | nil => cases hd
        | cons x r => cases e3.1
      | some y =>
        rw [ho] at e2 e3
        have := Cn.ge e3 d hd
        exact bl_asym (bl_lt_le e2 this)
/-- a key has one chunk -/
theorem Cn.un (key : ByteArray) : ∀ {l : List Ch} {a b : Option BK}, Cn a b l → ∀ {i j : Nat} {c d : Ch}, l[i]? = some c → l[j]? = some d → inB key c = true → inB key d = true → i = j := by
  have key1 : ∀ {r : List Ch} {b : Option BK} {c d : Ch}, Cn (hiO c) b r → d ∈ r → inB key c = true → inB key d = true → False := by
    intro r b c d h hd hc hk
    rw [inB_iff] at hc hk
    cases ho : hiO c with
    | none =>
      rw [ho] at h
      cases r with
      | nil => cases hd
      | cons x r => cases h.1
    | some y =>
      rw [ho] at h hc
      have := bl_lt_le hc.2 (Cn.ge h d hd)
      rw [hk.1] at this
      cases this
  intro l
  induction l with
  | nil => intro a b _ i j c d h; simp at h
  | cons x r ih =>
    intro a b ⟨e1, e2, e3⟩ i j c d hi hj hc hd
    cases i with
    | zero =>
      cases j with
      | zero => rfl
      | succ j =>
        simp at hi hj
        subst hi
        exact (key1 e3 (List.mem_of_getElem? hj) hc hd).elim
    | succ i =>
      cases j with
      | zero =>
        simp at hi hj
        subst hj
        exact (key1 e3 (List.mem_of_getElem? hi) hd hc).elim
      | succ j =>
        simp at hi hj
        rw [ih e3 hi hj hc hd]
theorem Cn.lt : ∀ {l : List Ch} {a b : Option BK}, Cn a b l → ∀ c ∈ l, ltO c.lo.toList (hiO c)
  | _ :: _, _, _, ⟨_, e2, e3⟩, d, hd => by
    rcases List.mem_cons.1 hd with rfl | hd
    · exact e2
    · exact Cn.lt e3 d hd
theorem begB_in {key : ByteArray} {c : Ch} (h : begB key c = true) (hl : ltO c.lo.toList (hiO c)) : inB key c = true := by
  unfold begB at h
  have h := (beq_iff_eq.1 h)
  rw [inB_iff, ← h]
  exact ⟨bl_irr _, hl⟩

/-- endsB and linkB together: the chunks follow each other from the start to the end -/
theorem hiO_nil {c : Ch} (h : c.hi.toList = []) : hiO c = none := by rw [hiO, if_pos h]
theorem hiO_some {c : Ch} (h : c.hi.toList ≠ []) : hiO c = some c.hi.toList := by rw [hiO, if_neg h]
theorem Cn.of_link : ∀ {l : List Ch} {c : Ch}, linkB (c :: l) = true → (((c :: l).getLast?.map (·.hi.toList)) == some []) = true → Cn (some c.lo.toList) none (c :: l)
  | [], c, _, h => by
    have h : c.hi.toList = [] := by simpa using h
    exact ⟨rfl, by rw [hiO_nil h]; trivial, hiO_nil h⟩
  | d :: r, c, h, h' => by
    rw [linkB] at h
    simp only [Bool.and_eq_true, Bool.not_eq_true', Bool.or_eq_false_iff, beq_iff_eq, beq_eq_false_iff_ne] at h
    obtain ⟨⟨h1, h2, h3⟩, h4⟩ := h
    have hlt : Op.bytesLess c.lo.toList d.lo.toList = true := by
      rcases bl_tri c.lo.toList d.lo.toList with h | h | h
      · exact h
      · exact absurd h.symm h3
      · rw [h2] at h; cases h
    have hne : c.hi.toList ≠ [] := by
      intro h
      rw [← h1] at h
      rw [h, bl_nil] at hlt
      cases hlt
    have := Cn.of_link h4 (by simpa using h')
    exact ⟨rfl, by rw [hiO_some hne, ← h1]; exact hlt, by rw [hiO_some hne, ← h1]; exact this⟩
theorem Cn.to_link : ∀ {l : List Ch} {a : Option BK} {c : Ch}, Cn a none (c :: l) → linkB (c :: l) = true ∧ (((c :: l).getLast?.map (·.hi.toList)) == some []) = true
  | [], _, c, ⟨_, _, h⟩ => by
    have h : hiO c = none := h
    refine ⟨rfl, ?_⟩
    by_cases hc : c.hi.toList = []
    · simp [hc]
    · rw [hiO_some hc] at h; cases h
  | d :: r, a, c, ⟨_, h2, h3⟩ => by
    obtain ⟨k1, k2⟩ := Cn.to_link h3
    have h4 := h3.1
    refine ⟨?_, by simpa using k2⟩
    by_cases hc : c.hi.toList = []
    · rw [hiO_nil hc] at h4; cases h4
    · rw [hiO_some hc] at h4 h2
      injection h4 with h4
      rw [h4] at h2
      have h2 : Op.bytesLess c.lo.toList d.lo.toList = true := h2
      rw [linkB, k1, bl_asym h2, h4]
      have hne : (d.lo.toList == c.lo.toList) = false := by
        rw [beq_eq_false_iff_ne]
        intro h
        rw [h, bl_irr] at h2
        cases h2
      simp [hne]
theorem ends_link (l : List Ch) : (endsB l = true ∧ linkB l = true) ↔ Cn (some []) none l := by
  cases l with
  | nil => exact ⟨fun h => (by cases h.1), fun h => (by cases h)⟩
  | cons c r =>
    constructor
    · rintro ⟨h1, h2⟩
      rw [endsB, Bool.and_eq_true] at h1
      have := Cn.of_link h2 h1.2
      rw [beq_iff_eq.1 h1.1] at this
      exact this
    · intro h
      have h1 := Cn.to_link h
      have h2 := h.1
      injection h2 with h2
      refine ⟨?_, h1.1⟩
      rw [endsB, ← h2, h1.2]
      rfl

/-- valid routes -/
structure VR (R : Ro) : Prop where
  nm : nameB R.sp = true
  ke : keyE R.ks R.ha = 0
  ln : R.cs.length ≤ 64
  ep : 1 ≤ R.ep
  ver : 1 ≤ R.ver
  good : ∀ c ∈ R.cs, 0 ≤ c.sh ∧ c.sh < 8 ∧ 1 ≤ c.ver ∧ c.ver ≤ R.ver
  cn : Cn (some []) none R.cs
theorem badC_iff (v : Int) (c : Ch) : badC v c = false ↔ 0 ≤ c.sh ∧ c.sh < 8 ∧ 1 ≤ c.ver ∧ c.ver ≤ v := by
  unfold badC
  simp only [Bool.or_eq_false_iff, decide_eq_false_iff_not]
  omega
theorem routE_iff (R : Ro) : routE R = 0 ↔ VR R := by
  unfold routE
  constructor
  · intro h
    split at h
    · cases h
    split at h
    · rename_i h1 h2; exact absurd h h2
    split at h
    · cases h
    split at h
    · cases h
    split at h
    · cases h
    split at h
    · cases h
    split at h
    · cases h
    rename_i h1 h2 h3 h4 h5 h6 h7
    refine ⟨by simpa using h1, by simpa using h2, by omega, by omega, by omega, fun c hc => ?_, (ends_link _).1 ⟨by simpa using h6, by simpa using h7⟩⟩
    rw [← badC_iff]
    have h5 : R.cs.any (badC R.ver) = false := by simpa using h5
    exact List.any_eq_false.1 h5 c hc |> (by simpa using ·)
  · rintro ⟨h1, h2, h3, h4, h5, h6, h7⟩
    obtain ⟨k1, k2⟩ := (ends_link _).2 h7
    have h8 : R.cs.any (badC R.ver) = false := List.any_eq_false.2 fun c hc => by simpa using (badC_iff _ _).2 (h6 c hc)
    rw [if_neg (by rw [h1]; simp), if_neg (by simpa using h2), if_neg (by omega), if_neg (by omega), if_neg (by rw [h8]; simp), if_neg (by rw [k1]; simp), if_neg (by rw [k2]; simp)]

/-- a piece of a chain is replaced by another with the same ends -/
theorem Cn.piece {l : List Ch} {a b : Option BK} (h : Cn a b l) {i n : Nat} {new : List Ch} (hr : ∀ p q, Cn p q ((l.drop i).take n) → Cn p q new) : Cn a b (repl l i n new) := by
  rw [← List.take_append_drop i l, ← List.take_append_drop n (l.drop i), List.drop_drop] at h
  obtain ⟨p, h1, h2⟩ := h.split
  obtain ⟨q, h2, h3⟩ := h2.split
  unfold repl
  exact (h1.app (hr p q h2)).app h3
theorem take_one {l : List Ch} {i : Nat} {c : Ch} (h : l[i]? = some c) : (l.drop i).take 1 = [c] := by rw [drop_of h]; rfl
theorem take_two {l : List Ch} {i : Nat} {c d : Ch} (h : l[i]? = some c) (h' : l[i + 1]? = some d) : (l.drop i).take 2 = [c, d] := by rw [drop_of h, drop_of h']; rfl
theorem mem_repl {l : List Ch} {i n : Nat} {new : List Ch} {c : Ch} (h : c ∈ repl l i n new) : c ∈ l ∨ c ∈ new := by
  unfold repl at h
  rcases List.mem_append.1 h with h | h
  · rcases List.mem_append.1 h with h | h
    · exact .inl (List.mem_of_mem_take h)
    · exact .inr h
  · exact .inl (List.mem_of_mem_drop h)
/-- the same piece, apart from shard and version -/
theorem Cn.alike {a b : Option BK} {c d : Ch} (h1 : d.lo = c.lo) (h2 : d.hi = c.hi) (h : Cn a b [c]) : Cn a b [d] := by
  obtain ⟨k1, k2, k3⟩ := h
  have : hiO d = hiO c := by unfold hiO; rw [h2]
  exact ⟨by rw [h1]; exact k1, by rw [h1, this]; exact k2, by rw [this]; exact k3⟩
theorem inB_alike {key : ByteArray} {c d : Ch} (h1 : d.lo = c.lo) (h2 : d.hi = c.hi) : inB key d = inB key c := by unfold inB; rw [h1, h2]
/-- what is touched keeps its ends -/
theorem touch_ways (l : List Ch) (s v : Int) : (touch l s v = l ∧ ∀ c ∈ l, c.sh ≠ s) ∨ ∃ (i : Nat) (c : Ch), l[i]? = some c ∧ c.sh = s ∧ touch l s v = repl l i 1 [⟨c.lo, c.hi, c.sh, v, c.ju⟩] := by
  unfold touch
  rcases idxI_range (shB s) l with ⟨h1, h2⟩ | ⟨i, c, h1, h2, h3, h4⟩
  · rw [h1]
    exact .inl ⟨rfl, fun c hc => by simpa [shB] using h2 c hc⟩
  · rw [h1, if_neg (by omega), Int.toNat_natCast, h2]
    exact .inr ⟨i, c, h2, by simpa [shB] using h3, by rw [← set_repl]; exact (List.getElem?_eq_some_iff.1 h2).1⟩
theorem repl_one_map {β : Type} (f : Ch → β) {l : List Ch} {i : Nat} {c d : Ch} (h : l[i]? = some c) (hf : f d = f c) : (repl l i 1 [d]).map f = l.map f := by
  unfold repl
  rw [List.map_append, List.map_append, List.map_cons, List.map_nil, hf]
  conv => rhs; rw [← List.take_append_drop i l, drop_of h]
  simp
/-- the shards of the keys are as before -/
def Keeps (l m : List Ch) : Prop := ∀ key : ByteArray, ∀ c' ∈ m, inB key c' = true → ∃ c ∈ l, inB key c = true ∧ c.sh = c'.sh
theorem Keeps.piece {l : List Ch} {i n : Nat} {new : List Ch} (h : ∀ key : ByteArray, ∀ c' ∈ new, inB key c' = true → ∃ c ∈ l, inB key c = true ∧ c.sh = c'.sh) : Keeps l (repl l i n new) := by
  intro key c' hc hk
  rcases mem_repl hc with h1 | h1
  · exact ⟨c', h1, hk, rfl⟩
  · exact h key c' h1 hk
theorem repl_len {l : List Ch} {i n : Nat} {new : List Ch} (h : i + n ≤ l.length) : (repl l i n new).length + n = l.length + new.length := by unfold repl; simp; omega
theorem nx_of {v : Int} (h : v ≤ 1152921504606846976) (h1 : 1 ≤ v) : nx v = v + 1 := by unfold nx wrap64; omega
/-- what a change of valid routes is -/
structure Step (R S : Ro) : Prop where
  sp : S.sp = R.sp
  ks : S.ks = R.ks
  ha : S.ha = R.ha
  ep : S.ep = R.ep
  ver : S.ver = R.ver + 1
theorem VR.of_step {R S : Ro} (h : VR R) (st : Step R S) (hl : S.cs.length ≤ 64) (hg : ∀ c ∈ S.cs, 0 ≤ c.sh ∧ c.sh < 8 ∧ 1 ≤ c.ver ∧ c.ver ≤ R.ver + 1) (hc : Cn (some []) none S.cs) : VR S :=
  ⟨by rw [st.sp]; exact h.nm, by rw [st.ks, st.ha]; exact h.ke, hl, by rw [st.ep]; exact h.ep, by rw [st.ver]; have := h.ver; omega, by rw [st.ver]; exact hg, hc⟩
theorem idxI_lt {p : Ch → Bool} {l : List Ch} {i : Nat} {c : Ch} (h : l[i]? = some c) (hp : p c = true) (hu : ∀ j d, l[j]? = some d → p d = true → j = i) : idxI p l = (i : Nat) := by
  rcases idxI_range p l with ⟨_, h2⟩ | ⟨j, d, h1, h2, h3, _⟩
  · rw [h2 c (List.mem_of_getElem? h)] at hp; cases hp
  · rw [h1, hu j d h2 h3]
theorem getElem?_lt {α : Type} {l : List α} {i : Nat} {c : α} (h : l[i]? = some c) : i < l.length := (List.getElem?_eq_some_iff.1 h).1

theorem split_ways {R : Ro} {key : ByteArray} (h : VR R) (hv : R.ver ≤ 1152921504606846976) : ((splitR R key).2 ≠ 0 ∧ (splitR R key).1 = Ro.zero) ∨
    ∃ (i : Nat) (c : Ch), R.cs[i]? = some c ∧ inB key c = true ∧ key.toList ≠ [] ∧ c.lo.toList ≠ key.toList ∧ c.ju = false ∧ R.cs.length < 64 ∧
      splitR R key = (⟨R.sp, R.ks, R.ha, R.ep, R.ver + 1, repl R.cs i 1 [⟨c.lo, key, c.sh, R.ver + 1, c.ju⟩, ⟨key, c.hi, c.sh, R.ver + 1, c.ju⟩]⟩, 0) := by
  have hn := nx_of hv h.ver
  unfold splitR
  split
  · exact .inl ⟨by decide, rfl⟩
  rename_i h1
  split
  · exact .inl ⟨by decide, rfl⟩
  rename_i h2
  rcases idxI_range (inB key) R.cs with ⟨h3, _⟩ | ⟨i, c, h3, h4, h5, _⟩
  · exact absurd (.inr (.inr (by omega))) h1
  rw [h3, Int.toNat_natCast, h4]
  cases hj : c.ju
  · refine .inr ⟨i, c, h4, h5, fun h => h1 (.inl h), fun he => ?_, hj, by omega, ?_⟩
    · have hb : begB key c = true := beq_iff_eq.2 he
      rcases idxI_range (begB key) R.cs with ⟨_, k2⟩ | ⟨j, d, k1, _⟩
      · rw [k2 c (List.mem_of_getElem? h4)] at hb; cases hb
      · exact h1 (.inr (.inl (by omega)))
    · simp [hn, hj]
  · exact .inl ⟨by simp [hj], by simp [hj]⟩

theorem join_ways {R : Ro} {key : ByteArray} (h : VR R) (hv : R.ver ≤ 1152921504606846976) : ((joinR R key).2 ≠ 0 ∧ (joinR R key).1 = Ro.zero) ∨
    ∃ (i : Nat) (a b : Ch), R.cs[i]? = some a ∧ R.cs[i + 1]? = some b ∧ b.lo.toList = key.toList ∧ a.sh = b.sh ∧ a.ju = false ∧ b.ju = false ∧
      joinR R key = (⟨R.sp, R.ks, R.ha, R.ep, R.ver + 1, repl R.cs i 2 [⟨a.lo, b.hi, a.sh, R.ver + 1, a.ju⟩]⟩, 0) := by
  have hn := nx_of hv h.ver
  unfold joinR
  split
  · exact .inl ⟨by decide, rfl⟩
  rename_i h1
  rcases idxI_range (begB key) R.cs with ⟨h3, _⟩ | ⟨i, b, h3, h4, h5, _⟩
  · omega
  rw [h3] at h1
  rw [h3, Int.toNat_natCast, h4]
  obtain ⟨k, rfl⟩ : ∃ k, i = k + 1 := ⟨i - 1, by omega⟩
  have hl := getElem?_lt h4
  obtain ⟨a, ha⟩ : ∃ a, R.cs[k]? = some a := ⟨_, List.getElem?_eq_getElem (by omega)⟩
  rw [show k + 1 - 1 = k by omega, ha]
  by_cases hc : a.sh ≠ b.sh ∨ a.ju = true ∨ b.ju = true
  · exact .inl ⟨by simp [hc], by simp [hc]⟩
  · refine .inr ⟨k, a, b, ha, h4, beq_iff_eq.1 h5, ?_, ?_, ?_, ?_⟩
    · exact Decidable.byContradiction fun h => hc (.inl h)
    · cases hj : a.ju; rfl; exact absurd (.inr (.inl hj)) hc
    · cases hj : b.ju; rfl; exact absurd (.inr (.inr hj)) hc
    · simp only [if_neg hc, hn]

theorem give_ways {R : Ro} {key : ByteArray} {z : Int} (h : VR R) (hv : R.ver ≤ 1152921504606846976) : ((giveR R key z).2 ≠ 0 ∧ (giveR R key z).1 = Ro.zero) ∨
    ∃ (i : Nat) (c : Ch), R.cs[i]? = some c ∧ c.lo.toList = key.toList ∧ 0 ≤ z ∧ z < 8 ∧ c.sh ≠ z ∧ c.ju = false ∧
      giveR R key z = (⟨R.sp, R.ks, R.ha, R.ep, R.ver + 1, touch (repl R.cs i 1 [⟨c.lo, c.hi, z, R.ver + 1, c.ju⟩]) c.sh (R.ver + 1)⟩, 0) := by
  have hn := nx_of hv h.ver
  unfold giveR
  split
  · exact .inl ⟨by decide, rfl⟩
  rename_i h1
  split
  · exact .inl ⟨by decide, rfl⟩
  rename_i h2
  rcases idxI_range (begB key) R.cs with ⟨h3, _⟩ | ⟨i, c, h3, h4, h5, _⟩
  · omega
  rw [h3, Int.toNat_natCast, h4]
  by_cases hc : c.sh = z ∨ c.ju = true
  · exact .inl ⟨by simp [hc], by simp [hc]⟩
  · refine .inr ⟨i, c, h4, beq_iff_eq.1 h5, by omega, by omega, fun h => hc (.inl h), ?_, ?_⟩
    · cases hj : c.ju; rfl; exact absurd (.inr hj) hc
    · simp only [if_neg hc, hn]

theorem mark_ways {R : Ro} {key : ByteArray} {j : Bool} (h : VR R) (hv : R.ver ≤ 1152921504606846976) : ((markR R key j).2 ≠ 0 ∧ (markR R key j).1 = Ro.zero) ∨ markR R key j = (R, 0) ∨
    ∃ (i : Nat) (c : Ch), R.cs[i]? = some c ∧ c.lo.toList = key.toList ∧
      markR R key j = (⟨R.sp, R.ks, R.ha, R.ep, R.ver + 1, repl R.cs i 1 [⟨c.lo, c.hi, c.sh, R.ver + 1, j⟩]⟩, 0) := by
  have hn := nx_of hv h.ver
  unfold markR
  split
  · exact .inl ⟨by decide, rfl⟩
  rename_i h1
  rcases idxI_range (begB key) R.cs with ⟨h3, _⟩ | ⟨i, c, h3, h4, h5, _⟩
  · omega
  rw [h3, Int.toNat_natCast, h4]
  by_cases hc : c.ju = j
  · exact .inr (.inl (by simp [hc]))
  · exact .inr (.inr ⟨i, c, h4, beq_iff_eq.1 h5, by simp only [if_neg hc, hn]⟩)

/-- a chunk takes another shard, version and mark -/
theorem one_cn {l : List Ch} {a b : Option BK} {i : Nat} {c d : Ch} (h : Cn a b l) (hi : l[i]? = some c) (h1 : d.lo = c.lo) (h2 : d.hi = c.hi) : Cn a b (repl l i 1 [d]) :=
  h.piece fun p q hp => by rw [take_one hi] at hp; exact hp.alike h1 h2
theorem one_good {l : List Ch} {v : Int} (h : ∀ c ∈ l, 0 ≤ c.sh ∧ c.sh < 8 ∧ 1 ≤ c.ver ∧ c.ver ≤ v) (hv : 1 ≤ v) {i n : Nat} {new : List Ch} (hn : ∀ d ∈ new, 0 ≤ d.sh ∧ d.sh < 8 ∧ d.ver = v + 1) : ∀ c ∈ repl l i n new, 0 ≤ c.sh ∧ c.sh < 8 ∧ 1 ≤ c.ver ∧ c.ver ≤ v + 1 := by
  intro c hc
  rcases mem_repl hc with h1 | h1
  · have := h c h1; omega
  · have := hn c h1; omega

theorem split_ok {R : Ro} {key : ByteArray} (h : VR R) {i : Nat} {c : Ch} (hi : R.cs[i]? = some c) (hk : inB key c = true) (hne : key.toList ≠ []) (hlo : c.lo.toList ≠ key.toList) (hl : R.cs.length < 64) :
    VR ⟨R.sp, R.ks, R.ha, R.ep, R.ver + 1, repl R.cs i 1 [⟨c.lo, key, c.sh, R.ver + 1, c.ju⟩, ⟨key, c.hi, c.sh, R.ver + 1, c.ju⟩]⟩ ∧ Keeps R.cs (repl R.cs i 1 [⟨c.lo, key, c.sh, R.ver + 1, c.ju⟩, ⟨key, c.hi, c.sh, R.ver + 1, c.ju⟩]) := by
  have hm := List.mem_of_getElem? hi
  have hg := h.good c hm
  obtain ⟨k1, k2⟩ := (inB_iff _ _).1 hk
  have hlt : Op.bytesLess c.lo.toList key.toList = true := by
    rcases bl_tri c.lo.toList key.toList with h | h | h
    · exact h
    · exact absurd h hlo
    · rw [k1] at h; cases h
  have hll := getElem?_lt hi
  refine ⟨h.of_step ⟨rfl, rfl, rfl, rfl, rfl⟩ ?_ ?_ ?_, ?_⟩
  · have := repl_len (l := R.cs) (i := i) (n := 1) (new := [⟨c.lo, key, c.sh, R.ver + 1, c.ju⟩, ⟨key, c.hi, c.sh, R.ver + 1, c.ju⟩]) (by omega)
    simp at this
    simp
    omega
  · refine one_good h.good h.ver fun d hd => ?_
    rcases List.mem_cons.1 hd with rfl | hd
    · exact ⟨hg.1, hg.2.1, rfl⟩
    · rw [List.mem_singleton.1 hd]
      exact ⟨hg.1, hg.2.1, rfl⟩
  · refine h.cn.piece fun p q hp => ?_
    rw [take_one hi] at hp
    obtain ⟨e1, _, e3⟩ := hp
    have e3 : hiO c = q := e3
    refine ⟨e1, ?_, ?_, ?_, ?_⟩
    · rw [hiO_some hne]; exact hlt
    · rw [hiO_some hne]
    · exact k2
    · exact e3
  · refine Keeps.piece fun k' d hd hin => ?_
    refine ⟨c, hm, ?_, ?_⟩
    · rcases List.mem_cons.1 hd with rfl | hd
      · rw [inB_iff] at hin ⊢
        refine ⟨hin.1, ?_⟩
        have h2 := hin.2
        rw [hiO_some hne] at h2
        have h2 : Op.bytesLess k'.toList key.toList = true := h2
        cases ho : hiO c with
        | none => trivial
        | some y => rw [ho] at k2; exact bl_tr h2 k2
      · rw [List.mem_singleton.1 hd] at hin
        rw [inB_iff] at hin ⊢
        refine ⟨?_, hin.2⟩
        have h1 : Op.bytesLess k'.toList key.toList = false := hin.1
        cases h5 : Op.bytesLess k'.toList c.lo.toList
        · rfl
        · rw [bl_tr h5 hlt] at h1; cases h1
    · rcases List.mem_cons.1 hd with rfl | hd
      · rfl
      · rw [List.mem_singleton.1 hd]

theorem join_ok {R : Ro} (h : VR R) {i : Nat} {a b : Ch} (hi : R.cs[i]? = some a) (hj : R.cs[i + 1]? = some b) (hs : a.sh = b.sh) :
    VR ⟨R.sp, R.ks, R.ha, R.ep, R.ver + 1, repl R.cs i 2 [⟨a.lo, b.hi, a.sh, R.ver + 1, a.ju⟩]⟩ ∧ Keeps R.cs (repl R.cs i 2 [⟨a.lo, b.hi, a.sh, R.ver + 1, a.ju⟩]) := by
  have hm := List.mem_of_getElem? hi
  have hm2 := List.mem_of_getElem? hj
  have hg := h.good a hm
  have hll := getElem?_lt hj
  have h64 := h.ln
  have hcn := h.cn
  refine ⟨h.of_step ⟨rfl, rfl, rfl, rfl, rfl⟩ ?_ ?_ ?_, ?_⟩
  · have := repl_len (l := R.cs) (i := i) (n := 2) (new := [⟨a.lo, b.hi, a.sh, R.ver + 1, a.ju⟩]) (by omega)
    simp at this
    simp
    omega
  · refine one_good h.good h.ver fun d hd => ?_
    rw [List.mem_singleton.1 hd]
    exact ⟨hg.1, hg.2.1, rfl⟩
  · refine h.cn.piece fun p q hp => ?_
    rw [take_two hi hj] at hp
    obtain ⟨e1, e2, e3, e4, e5⟩ := hp
    refine ⟨e1, ?_, e5⟩
    rw [e3] at e2
    have e2 : Op.bytesLess a.lo.toList b.lo.toList = true := e2
    show ltO a.lo.toList (hiO b)
    cases ho : hiO b with
    | none => trivial
    | some y => rw [ho] at e4; exact bl_tr e2 e4
  · refine Keeps.piece fun k' d hd hin => ?_
    rw [List.mem_singleton.1 hd] at hin ⊢
    rw [inB_iff] at hin
    by_cases hb : Op.bytesLess k'.toList b.lo.toList = true
    · refine ⟨a, hm, ?_, rfl⟩
      rw [inB_iff]
      refine ⟨hin.1, ?_⟩
      rw [← List.take_append_drop i R.cs] at hcn
      obtain ⟨p, _, hc⟩ := hcn.split
      rw [drop_of hi, drop_of hj] at hc
      rw [hc.2.2.1]
      exact hb
    · exact ⟨b, hm2, (inB_iff _ _).2 ⟨by simpa using hb, hin.2⟩, hs.symm⟩

theorem repl_get {l : List Ch} {i : Nat} {d : Ch} (hi : i < l.length) (j : Nat) : (repl l i 1 [d])[j]? = if j = i then some d else l[j]? := by
  rw [← set_repl hi, List.getElem?_set]
  split
  · rename_i h; subst h; rw [if_pos rfl]
  · rename_i h; rw [if_neg (fun e => h e.symm)]
theorem touch_get {l : List Ch} {s v : Int} (j : Nat) : (touch l s v)[j]? = l[j]? ∨ ∃ c, l[j]? = some c ∧ c.sh = s ∧ (touch l s v)[j]? = some ⟨c.lo, c.hi, c.sh, v, c.ju⟩ := by
  rcases touch_ways l s v with ⟨h, _⟩ | ⟨i, c, h1, h2, h3⟩
  · exact .inl (by rw [h])
  · rw [h3, repl_get (getElem?_lt h1)]
    split
    · rename_i h; subst h; exact .inr ⟨c, h1, h2, rfl⟩
    · exact .inl rfl
theorem touch_cn {l : List Ch} {a b : Option BK} (h : Cn a b l) (s v : Int) : Cn a b (touch l s v) := by
  rcases touch_ways l s v with ⟨h1, _⟩ | ⟨i, c, h1, h2, h3⟩
  · rw [h1]; exact h
  · rw [h3]; exact one_cn h h1 rfl rfl
theorem touch_len (l : List Ch) (s v : Int) : (touch l s v).length = l.length := by
  rcases touch_ways l s v with ⟨h1, _⟩ | ⟨i, c, h1, h2, h3⟩
  · rw [h1]
  · rw [h3, ← set_repl (getElem?_lt h1), List.length_set]

theorem give_ok {R : Ro} {z : Int} (h : VR R) {i : Nat} {c : Ch} (hi : R.cs[i]? = some c) (h0 : 0 ≤ z) (h8 : z < 8) :
    VR ⟨R.sp, R.ks, R.ha, R.ep, R.ver + 1, touch (repl R.cs i 1 [⟨c.lo, c.hi, z, R.ver + 1, c.ju⟩]) c.sh (R.ver + 1)⟩ := by
  have hll := getElem?_lt hi
  have hG := one_good (i := i) (n := 1) (new := [⟨c.lo, c.hi, z, R.ver + 1, c.ju⟩]) h.good h.ver fun d hd => by rw [List.mem_singleton.1 hd]; exact ⟨h0, h8, rfl⟩
  refine h.of_step ⟨rfl, rfl, rfl, rfl, rfl⟩ ?_ ?_ ?_
  · show (touch _ _ _).length ≤ 64
    rw [touch_len, ← set_repl hll, List.length_set]
    exact h.ln
  · show ∀ d ∈ touch _ _ _, _
    rcases touch_ways (repl R.cs i 1 [⟨c.lo, c.hi, z, R.ver + 1, c.ju⟩]) c.sh (R.ver + 1) with ⟨h1, _⟩ | ⟨j, d, h1, h2, h3⟩
    · rw [h1]; exact hG
    · rw [h3]
      intro e he
      rcases mem_repl he with k | k
      · exact hG e k
      · rw [List.mem_singleton.1 k]
        have hd := hG d (List.mem_of_getElem? h1)
        have := h.ver
        exact ⟨hd.1, hd.2.1, by show 1 ≤ R.ver + 1; omega, Int.le_refl _⟩
  · exact touch_cn (one_cn h.cn hi (by rfl) (by rfl)) _ _
/-- after Give: the chunks lie where they lay; the shard is the old one but for the chunk that was given -/
theorem give_get {R : Ro} {z : Int} {i : Nat} {c : Ch} (hi : R.cs[i]? = some c) (k : Nat) (d : Ch) (hk : (touch (repl R.cs i 1 [⟨c.lo, c.hi, z, R.ver + 1, c.ju⟩]) c.sh (R.ver + 1))[k]? = some d) :
    ∃ e, R.cs[k]? = some e ∧ d.lo = e.lo ∧ d.hi = e.hi ∧ d.sh = (if k = i then z else e.sh) := by
  have hll := getElem?_lt hi
  have key : ∀ d, (repl R.cs i 1 [⟨c.lo, c.hi, z, R.ver + 1, c.ju⟩])[k]? = some d → ∃ e, R.cs[k]? = some e ∧ d.lo = e.lo ∧ d.hi = e.hi ∧ d.sh = (if k = i then z else e.sh) := by
    intro d hd
    rw [repl_get hll] at hd
    split at hd
    · rename_i h
      subst h
      injection hd with hd
      subst hd
      exact ⟨c, hi, rfl, rfl, by rw [if_pos rfl]⟩
    · rename_i h
      exact ⟨d, hd, rfl, rfl, by rw [if_neg h]⟩
  rcases touch_get (l := repl R.cs i 1 [⟨c.lo, c.hi, z, R.ver + 1, c.ju⟩]) (s := c.sh) (v := R.ver + 1) k with h | ⟨d', h1, h2, h3⟩
  · rw [h] at hk
    exact key d hk
  · rw [h3] at hk
    injection hk with hk
    subst hk
    exact key d' h1
theorem mark_ok {R : Ro} {j : Bool} (h : VR R) {i : Nat} {c : Ch} (hi : R.cs[i]? = some c) :
    VR ⟨R.sp, R.ks, R.ha, R.ep, R.ver + 1, repl R.cs i 1 [⟨c.lo, c.hi, c.sh, R.ver + 1, j⟩]⟩ ∧ Keeps R.cs (repl R.cs i 1 [⟨c.lo, c.hi, c.sh, R.ver + 1, j⟩]) := by
  have hm := List.mem_of_getElem? hi
  have hg := h.good c hm
  have hll := getElem?_lt hi
  refine ⟨h.of_step ⟨rfl, rfl, rfl, rfl, rfl⟩ ?_ ?_ ?_, ?_⟩
  · show (repl _ _ _ _).length ≤ 64
    rw [← set_repl hll, List.length_set]
    exact h.ln
  · refine one_good h.good h.ver fun d hd => ?_
    rw [List.mem_singleton.1 hd]
    exact ⟨hg.1, hg.2.1, rfl⟩
  · exact one_cn h.cn hi (by rfl) (by rfl)
  · refine Keeps.piece fun k' d hd hin => ?_
    rw [List.mem_singleton.1 hd] at hin ⊢
    exact ⟨c, hm, by rw [← hin]; exact (inB_alike (by rfl) (by rfl)).symm, rfl⟩

end Go.Proofs.YtblepmmibhphhaaGreatDoor

namespace Go.Proofs.YtblepmmibhphhaaGreatDoor
open Go.RowKit

def verStep (s : Int) (p : Int × Bool) (c : Ch) : Int × Bool := if c.sh = s ∧ (p.2 = false ∨ p.1 < c.ver) then (c.ver, true) else p
def verR (s : Int) (l : List Ch) : Int := (l.foldl (verStep s) (0, false)).1
theorem verStep_fold (s : Int) : ∀ (l : List Ch) (p : Int × Bool), (∀ c ∈ l, c.sh = s → c.ver ≤ (l.foldl (verStep s) p).1) ∧ (p.2 = true → p.1 ≤ (l.foldl (verStep s) p).1) ∧
    (l.foldl (verStep s) p = p ∨ ((l.foldl (verStep s) p).2 = true ∧ ∃ c ∈ l, c.sh = s ∧ (l.foldl (verStep s) p).1 = c.ver))
  | [], p => ⟨fun c h => by simp at h, fun _ => Int.le_refl _, .inl rfl⟩
  | a :: r, p => by
    rw [List.foldl_cons]
    obtain ⟨h1, h2, h3⟩ := verStep_fold s r (verStep s p a)
    by_cases hc : a.sh = s ∧ (p.2 = false ∨ p.1 < a.ver)
    · have hv : verStep s p a = (a.ver, true) := by unfold verStep; rw [if_pos hc]
      rw [hv] at h1 h2 h3 ⊢
      refine ⟨fun c hm hs => ?_, fun hp => ?_, ?_⟩
      · rcases List.mem_cons.1 hm with rfl | hm
        · exact h2 rfl
        · exact h1 c hm hs
      · have := h2 rfl
        rcases hc.2 with h | h
        · rw [hp] at h; cases h
        · simp only at this; omega
      · rcases h3 with h3 | ⟨h3, c, hm, hs, hvv⟩
        · rw [h3]
          exact .inr ⟨rfl, a, by simp, hc.1, rfl⟩
        · exact .inr ⟨h3, c, List.mem_cons_of_mem _ hm, hs, hvv⟩
    · have hv : verStep s p a = p := by unfold verStep; rw [if_neg hc]
      rw [hv] at h1 h2 h3 ⊢
      refine ⟨fun c hm hs => ?_, h2, ?_⟩
      · rcases List.mem_cons.1 hm with rfl | hm
        · have hp2 : p.2 = true := by cases h : p.2; exact absurd ⟨hs, .inl h⟩ hc; rfl
          have := h2 hp2
          have : ¬ p.1 < c.ver := fun h => hc ⟨hs, .inr h⟩
          omega
        · exact h1 c hm hs
      · rcases h3 with h3 | ⟨h3, c, hm, hs, hvv⟩
        · exact .inl h3
        · exact .inr ⟨h3, c, List.mem_cons_of_mem _ hm, hs, hvv⟩
theorem verR_ways (s : Int) (l : List Ch) : (∀ c ∈ l, c.sh = s → c.ver ≤ verR s l) ∧ (verR s l = 0 ∨ ∃ c ∈ l, c.sh = s ∧ verR s l = c.ver) := by
  obtain ⟨h1, _, h3⟩ := verStep_fold s l (0, false)
  refine ⟨h1, ?_⟩
  rcases h3 with h3 | ⟨_, h3⟩
  · left; unfold verR; rw [h3]
  · exact .inr h3

set_option maxRecDepth 100000 in
set_option maxHeartbeats 800000 in
theorem version_any (R : Ro) (a : RA) (s : Int) (w : World) (h : RR w a R) :
    Calls Tryz.prog 62 #[rval a R, .int .i64 s] w fun e w' => e = .returned (.int .i64 (verR s R.cs)) ∧ Below w.heap.size w w' := by
  obtain ⟨KA, kn, kc, CA, cn, cc⟩ := a
  have H := Lib.hid h
  have hn : Hid (cn = R.cs.length) := h.cs.ln
  have hcz : cn * 56 ≤ reach := h.cs.sz
  have hkn : cn ≤ 140737488355328 := by unfold reach at hcz; omega
  clear h hcz
  have B0 : Hid (Blk (w.alloc (Obj.cells (rarr ⟨KA, kn, kc, CA, cn, cc⟩ R) 45)) w.heap.size 45 (rarr ⟨KA, kn, kc, CA, cn, cc⟩ R)) := Blk.new_at rfl
  have BE : Hid (Below w.heap.size w (w.alloc (Obj.cells (rarr ⟨KA, kn, kc, CA, cn, cc⟩ R) 45))) := (Below.refl _ _).alloc (Nat.le_refl _) _
  go_enter Tryz.func62, Tryz.ntmps62
  go_upto_region 1 with fail
  change (Code.region 1 _ _).wp _ _ _ (w.alloc (Obj.cells (rarr ⟨KA, kn, kc, CA, cn, cc⟩ R) 45))
  generalize w.alloc (Obj.cells (rarr ⟨KA, kn, kc, CA, cn, cc⟩ R) 45) = wa at *
  obtain ⟨q0, q1, q2, q3, q4, q5, qz⟩ := blk_ro B0.out
  simp only at q1 q5
  clear q0 q1 q2 q3 q4
  go_wp2_with fail
  clear q5 qz
  go_loopw [12, 5, 6] (fun v12 v5 v6 wr => ∃ (i : Nat) (best : Int) (found : Bool), i ≤ cn ∧ v12 = .int .i64 i ∧ v5 = .int .i64 best ∧ v6 = .bool found ∧ R.cs.foldl (verStep s) (0, false) = (R.cs.drop i).foldl (verStep s) (best, found) ∧ Below w.heap.size w wr) (fun v _ _ _ => cn - (intOf v).toNat)
  case atStart => exact ⟨0, 0, false, Nat.zero_le _, rfl, rfl, rfl, rfl, BE.out⟩
  case round =>
    obtain ⟨i, best, found, hi, rfl, rfl, rfl, ha, hbel⟩ := hrel
    have HA := Lib.hid ha
    have HB := Lib.hid hbel
    clear ha
    by_cases hlt : i < cn
    · obtain ⟨b, off, x, hA, hb, hx, e0, e1, e2, e3, e4⟩ := H.out.cs.sr.at5 hlt
      simp only at hA
      subst hA
      have HX : Hid ((R.cs.drop i).foldl (verStep s) (best, found) = (R.cs.drop (i + 1)).foldl (verStep s) (verStep s (best, found) x)) := by rw [Hid, drop_of hx]; rfl
      have g0 := (hbel.cell (p := ⟨b, off + i * 5, none⟩) hb).trans e0
      have g1 := (hbel.cell (p := ⟨b, off + i * 5 + 1, none⟩) hb).trans e1
      have g2 := (hbel.cell (p := ⟨b, off + i * 5 + 2, none⟩) hb).trans e2
      have g3 := (hbel.cell (p := ⟨b, off + i * 5 + 3, none⟩) hb).trans e3
      have g4 := (hbel.cell (p := ⟨b, off + i * 5 + 4, none⟩) hb).trans e4
      obtain ⟨xlo, xhi, xsh, xver, xju⟩ := x
      simp only at g0 g1 g2 g3 g4
      have HBA := Lib.hid (HB.out.alloc HB.out.size (Obj.cells #[.string xlo, .string xhi, .int .i64 xsh, .int .i64 xver, .bool xju] 58))
      clear hx e0 e1 e2 e3 e4 hbel
      cases hsh : (xsh == s)
      · have HN : Hid (R.cs.foldl (verStep s) (0, false) = (R.cs.drop (i + 1)).foldl (verStep s) (best, found)) := by
          rw [Hid, HA.out, HX.out]
          unfold verStep
          rw [if_neg (fun h => by rw [beq_eq_false_iff_ne] at hsh; exact hsh h.1)]
        go_wp2_with fail
        go_roundw
        case rel => exact ⟨i + 1, best, found, by omega, by go_num, rfl, rfl, HN.out, HBA.out⟩
        case measure => simp [intOf]; omega
      have hsx : Hid (xsh = s) := beq_iff_eq.1 hsh
      cases found
      · have HN : Hid (R.cs.foldl (verStep s) (0, false) = (R.cs.drop (i + 1)).foldl (verStep s) (xver, true)) := by
          rw [Hid, HA.out, HX.out]
          unfold verStep
          rw [if_pos ⟨hsx.out, .inl rfl⟩]
        go_wp2_with fail
        go_roundw
        case rel => exact ⟨i + 1, xver, true, by omega, by go_num, rfl, rfl, HN.out, HBA.out⟩
        case measure => simp [intOf]; omega
      by_cases hv : best < xver
      · have HN : Hid (R.cs.foldl (verStep s) (0, false) = (R.cs.drop (i + 1)).foldl (verStep s) (xver, true)) := by
          rw [Hid, HA.out, HX.out]
          unfold verStep
          rw [if_pos ⟨hsx.out, .inr hv⟩]
        go_wp2_with fail
        go_roundw
        case rel => exact ⟨i + 1, xver, true, by omega, by go_num, rfl, rfl, HN.out, HBA.out⟩
        case measure => simp [intOf]; omega
      · have HN : Hid (R.cs.foldl (verStep s) (0, false) = (R.cs.drop (i + 1)).foldl (verStep s) (best, true)) := by
          rw [Hid, HA.out, HX.out]
          unfold verStep
          rw [if_neg (fun h => by rcases h.2 with h | h; cases h; exact hv h)]
        go_wp2_with fail
        go_roundw
        case rel => exact ⟨i + 1, best, true, by omega, by go_num, rfl, rfl, HN.out, HBA.out⟩
        case measure => simp [intOf]; omega
    · have HN : Hid (verR s R.cs = best) := by rw [Hid, verR, HA.out, List.drop_of_length_le (by rw [← hn.out]; omega)]; rfl
      clear hbel
      go_wp2_with fail
      go_ret
      exact ⟨by rw [HN.out]; rfl, HB.out⟩

end Go.Proofs.YtblepmmibhphhaaGreatDoor

namespace Go.Proofs.YtblepmmibhphhaaGreatDoor
open Go.RowKit

def fewB (R : Ro) : Bool := decide (R.cs.length ≤ 80) && decide (R.ks.length ≤ 10)
end Go.Proofs.YtblepmmibhphhaaGreatDoor

namespace Go.Proofs.YtblepmmibhphhaaGreatDoor
open Go.RowKit

theorem cell_setR {w : World} {g b i : Nat} (hb : b ≠ g) (a : RA) (R : Ro) : (setR w g a R).cell? ⟨b, i, none⟩ = w.cell? ⟨b, i, none⟩ := World.cell?_of_block (w := w) (a := ⟨b, i, none⟩) (heap_setR w g a R b hb)
theorem SR.setR_far {α : Type} {s : Nat} {rec : α → List Value} {w : World} {g : Nat} {A : Option Addr} {n c : Nat} {l : List α} (h : SR s rec w A n c l) (hb : ∀ b off, 0 < n → A = some ⟨b, off, none⟩ → (∀ (i : Nat) (a : α), l[i]? = some a → ∀ (j : Nat) (v : Value), (rec a)[j]? = some v → w.cell? ⟨b, off + i * s + j, none⟩ = some v) → b ≠ g) (a : RA) (R : Ro) : SR s rec (setR w g a R) A n c l := by
  refine ⟨h.ln, h.lc, fun hn => ?_⟩
  obtain ⟨b, off, h1, h2, h3⟩ := h.el hn
  have := hb b off hn h1 h3
  exact ⟨b, off, h1, by rw [size_setR]; exact h2, fun i x hi j v hj => (cell_setR this a R).trans (h3 i x hi j v hj)⟩
theorem zero_cell {w : World} {g : Nat} {t : TypeId} (B : Blk w g t (rarr RA.zero Ro.zero)) {i : Nat} {v : Value} (h : w.cell? ⟨g, i, none⟩ = some v) : (rarr RA.zero Ro.zero)[i]? = some v := by rw [← B.cell]; exact h
theorem zero_string {i : Nat} {s : ByteArray} (h : (rarr RA.zero Ro.zero)[i]? = some (.string s)) : i = 0 ∧ s = ByteArray.empty := by
  rcases i with _ | _ | _ | _ | _ | _ | i
  · simp [Ro.zero] at h; exact ⟨rfl, h.symm⟩
  all_goals simp at h
theorem zero_slice {i : Nat} {A : Option Addr} {n c : Nat} (h : (rarr RA.zero Ro.zero)[i]? = some (.slice A n c)) : n = 0 := by
  rcases i with _ | _ | _ | _ | _ | _ | i
  all_goals simp [RA.zero] at h
  all_goals exact h.2.1.symm
theorem CS.far {w : World} {g : Nat} {t : TypeId} {A : Option Addr} {n c : Nat} {l : List Ch} (h : CS w A n c l) (B : Blk w g t (rarr RA.zero Ro.zero)) (a : RA) (R : Ro) : CS (setR w g a R) A n c l := by
  refine ⟨h.sr.setR_far (fun b off hn _ hc hb => ?_) a R, h.sz⟩
  subst hb
  have hl : 0 < l.length := by have := h.ln; omega
  have h0 := List.getElem?_eq_getElem hl
  have c0 := zero_string (zero_cell B (hc 0 _ h0 0 _ rfl))
  have c1 := zero_string (zero_cell B (hc 0 _ h0 1 _ rfl))
  omega
theorem ST.far {w : World} {g : Nat} {t : TypeId} {A : Option Addr} {n c : Nat} {l : List ByteArray} (h : ST w A n c l) (hp : pathB l = true) (B : Blk w g t (rarr RA.zero Ro.zero)) (a : RA) (R : Ro) : ST (setR w g a R) A n c l := by
  refine ⟨h.sr.setR_far (fun b off hn _ hc hb => ?_) a R, h.sz, h.el⟩
  subst hb
  have hl : 0 < l.length := by have := h.sr.ln; omega
  have h0 := List.getElem?_eq_getElem hl
  have c0 := (zero_string (zero_cell B (hc 0 _ h0 0 _ rfl))).2
  simp only [pathB, Bool.and_eq_true, List.all_eq_true] at hp
  have h2 := hp.2 _ (List.getElem_mem hl)
  rw [c0] at h2
  exact absurd h2 (by decide)
theorem KS.far {w : World} {g : Nat} {t : TypeId} {A : Option Addr} {n c : Nat} {ks : List Od} (h : KS w A n c ks) (hp : ∀ q ∈ ks, pathB q.p = true) (B : Blk w g t (rarr RA.zero Ro.zero)) (a : RA) (R : Ro) : KS (setR w g a R) A n c ks := by
  obtain ⟨os, h⟩ := h
  refine ⟨os, h.sr.setR_far (fun b off hn _ hc hb => ?_) a R, h.sz, h.ln, fun i o q h1 h2 => ⟨(h.el i o q h1 h2).d, (h.el i o q h1 h2).st.far (hp q (List.mem_of_getElem? h2)) B a R⟩⟩
  subst hb
  have hl : 0 < os.length := by have := h.sr.ln; omega
  have hl2 : 0 < ks.length := by have := h.ln; omega
  have h0 := List.getElem?_eq_getElem hl
  have h1 := List.getElem?_eq_getElem hl2
  have c0 := zero_slice (zero_cell B (hc 0 _ h0 0 _ rfl))
  have e := (h.el 0 _ _ h0 h1).st.sr.ln
  have h2 := hp _ (List.getElem_mem hl2)
  simp only [pathB, Bool.and_eq_true, decide_eq_true_eq] at h2
  omega
theorem RR.far {w : World} {g : Nat} {t : TypeId} {b : RA} {S : Ro} (h : RR w b S) (hp : ∀ q ∈ S.ks, pathB q.p = true) (B : Blk w g t (rarr RA.zero Ro.zero)) (a : RA) (R : Ro) : RR (setR w g a R) b S := ⟨h.sp, h.ks.far hp B a R, h.cs.far B a R⟩

theorem ordL_path : ∀ (ks done : List Od), ordL done ks = 0 → ∀ q ∈ ks, pathB q.p = true
  | [], _, _, q, h => by simp at h
  | o :: r, done, h, q, hq => by
    unfold ordL at h
    split at h
    · cases h
    · rename_i h1
      split at h
      · cases h
      · rcases List.mem_cons.1 hq with rfl | h2
        · simpa using h1
        · exact ordL_path r _ h q h2
theorem keyE_path {ks : List Od} {ha : Bool} (h : keyE ks ha = 0) : ∀ q ∈ ks, pathB q.p = true := by
  unfold keyE at h
  split at h
  · rename_i h1
    exact absurd h h1
  · rename_i h1
    have h1 : ordE ks = 0 := by simpa using h1
    unfold ordE at h1
    split at h1
    · cases h1
    · exact ordL_path ks [] h1
theorem VR.path {R : Ro} (h : VR R) : ∀ q ∈ R.ks, pathB q.p = true := keyE_path h.ke

/-- the change of the law -/
def changeR (R : Ro) (k : Int) (key : ByteArray) (z : Int) (j : Bool) : Ro × Int := if k = 0 then splitR R key else if k = 1 then joinR R key else if k = 2 then giveR R key z else markR R key j
theorem splitR_ks (R : Ro) (key : ByteArray) : (splitR R key).1.ks = R.ks ∨ (splitR R key).1.ks = [] := by
  unfold splitR
  repeat' split
  all_goals first | exact .inr rfl | exact .inl rfl
theorem joinR_ks (R : Ro) (key : ByteArray) : (joinR R key).1.ks = R.ks ∨ (joinR R key).1.ks = [] := by
  unfold joinR
  repeat' split
  all_goals first | exact .inr rfl | exact .inl rfl
theorem giveR_ks (R : Ro) (key : ByteArray) (z : Int) : (giveR R key z).1.ks = R.ks ∨ (giveR R key z).1.ks = [] := by
  unfold giveR
  repeat' split
  all_goals first | exact .inr rfl | exact .inl rfl
theorem markR_ks (R : Ro) (key : ByteArray) (j : Bool) : (markR R key j).1.ks = R.ks ∨ (markR R key j).1.ks = [] := by
  unfold markR
  repeat' split
  all_goals first | exact .inr rfl | exact .inl rfl
theorem path_of {ks l : List Od} (h : l = ks ∨ l = []) (hp : ∀ q ∈ ks, pathB q.p = true) : ∀ q ∈ l, pathB q.p = true := by
  rcases h with rfl | rfl
  · exact hp
  · intro q hq; simp at hq

end Go.Proofs.YtblepmmibhphhaaGreatDoor

namespace Go.Proofs.YtblepmmibhphhaaGreatDoor
open Go.RowKit

/-- the same chunk apart from its version -/
def likeC (a b : Ch) : Prop := a.lo.toList = b.lo.toList ∧ a.hi.toList = b.hi.toList ∧ a.sh = b.sh ∧ a.ju = b.ju
theorem idx_beg {l : List Ch} {a b : Option BK} (h : Cn a b l) {key : ByteArray} {i : Nat} {c : Ch} (hi : l[i]? = some c) (hk : begB key c = true) : idxI (begB key) l = (i : Nat) :=
  idxI_lt hi hk fun _ d hj hd => h.un key hj hi (begB_in hd (h.lt d (List.mem_of_getElem? hj))) (begB_in hk (h.lt c (List.mem_of_getElem? hi)))
theorem nx_of' {v : Int} (h : v ≤ 2305843009213693952) (h1 : 1 ≤ v) : nx v = v + 1 := by unfold nx wrap64; omega
theorem repl_two {l : List Ch} {i : Nat} {c a b : Ch} (hi : l[i]? = some c) : (repl l i 1 [a, b])[i]? = some a ∧ (repl l i 1 [a, b])[i + 1]? = some b := by
  have hl := (List.getElem?_eq_some_iff.1 hi).1
  have ht : (l.take i).length = i := by rw [List.length_take, Nat.min_eq_left (by omega)]
  unfold repl
  constructor
  · rw [List.append_assoc, List.getElem?_append_right (by omega), ht, Nat.sub_self]; rfl
  · rw [List.append_assoc, List.getElem?_append_right (by omega), ht, show i + 1 - i = 1 by omega]; rfl
theorem repl_back {l : List Ch} {i : Nat} {c a b d : Ch} (hi : l[i]? = some c) : repl (repl l i 1 [a, b]) i 2 [d] = repl l i 1 [d] := by
  have hl := (List.getElem?_eq_some_iff.1 hi).1
  have ht : (l.take i).length = i := by rw [List.length_take, Nat.min_eq_left (by omega)]
  have e1 : (repl l i 1 [a, b]).take i = l.take i := by
    unfold repl
    rw [List.append_assoc, List.take_append_of_le_length (by omega), List.take_of_length_le (by omega)]
  have e2 : (repl l i 1 [a, b]).drop (i + 2) = l.drop (i + 1) := by
    unfold repl
    rw [show i + 2 = (l.take i ++ [a, b]).length by simp; omega, List.drop_left]
  rw [repl, e1, e2]
  rfl
theorem back_law {R : Ro} {key : ByteArray} (h : VR R) (hv : R.ver ≤ 1152921504606846976) (he : (splitR R key).2 = 0) :
    ∃ B, joinR (splitR R key).1 key = (B, 0) ∧ B.cs.length = R.cs.length ∧ ∀ (i : Nat) (c d : Ch), R.cs[i]? = some c → B.cs[i]? = some d → likeC c d := by
  rcases split_ways h hv with ⟨h1, _⟩ | ⟨i, c, hi, hin, hne, hlo, hju, hlen, hS⟩
  · exact absurd he h1
  · obtain ⟨hVS, _⟩ := split_ok h hi hin hne hlo hlen
    rw [hS]
    obtain ⟨r1, r2⟩ := repl_two (a := ⟨c.lo, key, c.sh, R.ver + 1, c.ju⟩) (b := ⟨key, c.hi, c.sh, R.ver + 1, c.ju⟩) hi
    have hidx : idxI (begB key) (repl R.cs i 1 [⟨c.lo, key, c.sh, R.ver + 1, c.ju⟩, ⟨key, c.hi, c.sh, R.ver + 1, c.ju⟩]) = ((i + 1 : Nat) : Int) := idx_beg hVS.cn r2 (by unfold begB; simp)
    have hnx : nx (R.ver + 1) = R.ver + 1 + 1 := nx_of' (by omega) (by have := h.ver; omega)
    refine ⟨⟨R.sp, R.ks, R.ha, R.ep, R.ver + 1 + 1, repl R.cs i 1 [⟨c.lo, c.hi, c.sh, R.ver + 1 + 1, c.ju⟩]⟩, ?_, ?_, ?_⟩
    · unfold joinR
      simp only
      rw [hidx, if_neg (by omega), Int.toNat_natCast, r2, show i + 1 - 1 = i by omega, r1]
      simp only
      rw [if_neg (by simp [hju]), hnx, repl_back hi]
    · show (repl _ _ _ _).length = _
      rw [← set_repl (getElem?_lt hi), List.length_set]
    · intro j x y hx hy
      have hy2 : (repl R.cs i 1 [⟨c.lo, c.hi, c.sh, R.ver + 1 + 1, c.ju⟩])[j]? = some y := hy
      clear hy
      rw [repl_get (getElem?_lt hi)] at hy2
      split at hy2
      · rename_i e
        subst e
        rw [hi] at hx
        obtain rfl := Option.some.inj hx
        obtain rfl := Option.some.inj hy2
        exact ⟨rfl, rfl, rfl, rfl⟩
      · rw [hx] at hy2
        obtain rfl := Option.some.inj hy2
        exact ⟨rfl, rfl, rfl, rfl⟩

/-- after Give the versions of both shards are new -/
theorem give_vers {R : Ro} {z : Int} (h : VR R) {i : Nat} {c : Ch} (hi : R.cs[i]? = some c) (h0 : 0 ≤ z) (h8 : z < 8) (hne : c.sh ≠ z) :
    verR c.sh (touch (repl R.cs i 1 [⟨c.lo, c.hi, z, R.ver + 1, c.ju⟩]) c.sh (R.ver + 1)) ≠ verR c.sh R.cs ∧ verR z (touch (repl R.cs i 1 [⟨c.lo, c.hi, z, R.ver + 1, c.ju⟩]) c.sh (R.ver + 1)) = R.ver + 1 := by
  have hm := List.mem_of_getElem? hi
  have hg := h.good c hm
  have hG := (give_ok h hi h0 h8).good
  have hll := getElem?_lt hi
  obtain ⟨a1, a2⟩ := verR_ways c.sh R.cs
  have hv1 : 1 ≤ verR c.sh R.cs := by have := a1 c hm rfl; omega
  have hv2 : verR c.sh R.cs ≤ R.ver := by
    rcases a2 with a2 | ⟨d, hd, _, a2⟩
    · have := h.ver; omega
    · have := h.good d hd; omega
  have hGi : (⟨c.lo, c.hi, z, R.ver + 1, c.ju⟩ : Ch) ∈ touch (repl R.cs i 1 [⟨c.lo, c.hi, z, R.ver + 1, c.ju⟩]) c.sh (R.ver + 1) := by
    have hri : (repl R.cs i 1 [⟨c.lo, c.hi, z, R.ver + 1, c.ju⟩])[i]? = some ⟨c.lo, c.hi, z, R.ver + 1, c.ju⟩ := by rw [repl_get hll, if_pos rfl]
    rcases touch_get (l := repl R.cs i 1 [⟨c.lo, c.hi, z, R.ver + 1, c.ju⟩]) (s := c.sh) (v := R.ver + 1) i with h1 | ⟨d, h1, h2, _⟩
    · rw [hri] at h1
      exact List.mem_of_getElem? h1
    · rw [hri] at h1
      have := Option.some.inj h1
      rw [← this] at h2
      exact absurd h2.symm hne
  constructor
  · rcases touch_ways (repl R.cs i 1 [⟨c.lo, c.hi, z, R.ver + 1, c.ju⟩]) c.sh (R.ver + 1) with ⟨h1, h2⟩ | ⟨j, d, h1, h2, h3⟩
    · rw [h1]
      rcases (verR_ways c.sh (repl R.cs i 1 [⟨c.lo, c.hi, z, R.ver + 1, c.ju⟩])).2 with h4 | ⟨d, hd, hs, _⟩
      · omega
      · exact absurd hs (h2 d hd)
    · have hmem : (⟨d.lo, d.hi, d.sh, R.ver + 1, d.ju⟩ : Ch) ∈ touch (repl R.cs i 1 [⟨c.lo, c.hi, z, R.ver + 1, c.ju⟩]) c.sh (R.ver + 1) := by
        rw [h3]
        exact List.mem_of_getElem? (by rw [repl_get (getElem?_lt h1), if_pos rfl])
      have := (verR_ways c.sh _).1 _ hmem h2
      have this : R.ver + 1 ≤ _ := this
      omega
  · have b1 := (verR_ways z _).1 _ hGi rfl
    have b1 : R.ver + 1 ≤ _ := b1
    rcases (verR_ways z (touch (repl R.cs i 1 [⟨c.lo, c.hi, z, R.ver + 1, c.ju⟩]) c.sh (R.ver + 1))).2 with h4 | ⟨d, hd, _, h4⟩
    · have := h.ver; omega
    · have := (hG d hd).2.2.2
      have this : d.ver ≤ R.ver + 1 := this
      omega

end Go.Proofs.YtblepmmibhphhaaGreatDoor

namespace Go.Proofs.YtblepmmibhphhaaGreatDoor
open Go.RowKit

theorem sees {l : List Ch} (h : Cn (some []) none l) (kk : ByteArray) : ∃ (i : Nat) (c : Ch), l[i]? = some c ∧ inB kk c = true ∧ idxI (inB kk) l = (i : Nat) := by
  obtain ⟨c, hc, hk⟩ := Cn.ex kk h (bl_nil _) trivial
  obtain ⟨i, hi⟩ := List.mem_iff_getElem?.1 hc
  exact ⟨i, c, hi, hk, idxI_lt hi hk fun j d hj hd => h.un kk hj hi hd hk⟩
/-- what ChunksKeeps asks of a change that was not refused -/
structure KeepOk (R S : Ro) (k : Int) (key : ByteArray) (z : Int) (kk : ByteArray) : Prop where
  vr : VR S
  sp : S.sp = R.sp
  ep : S.ep = R.ep
  ver : S.ver = R.ver + 1 ∨ (k ≠ 0 ∧ k ≠ 1 ∧ k ≠ 2 ∧ S = R)
  sh : ∃ (i : Nat) (c : Ch) (m : Nat) (d : Ch), R.cs[i]? = some c ∧ idxI (inB kk) R.cs = (i : Nat) ∧ S.cs[m]? = some d ∧ idxI (inB kk) S.cs = (m : Nat) ∧ d.sh = (if k = 2 ∧ c.lo.toList = key.toList then z else c.sh)
theorem keeps_sh {R S : Ro} (h : VR R) (hS : VR S) (hk : Keeps R.cs S.cs) {k : Int} (h2 : k ≠ 2) (key : ByteArray) (z : Int) (kk : ByteArray) :
    ∃ (i : Nat) (c : Ch) (m : Nat) (d : Ch), R.cs[i]? = some c ∧ idxI (inB kk) R.cs = (i : Nat) ∧ S.cs[m]? = some d ∧ idxI (inB kk) S.cs = (m : Nat) ∧ d.sh = (if k = 2 ∧ c.lo.toList = key.toList then z else c.sh) := by
  obtain ⟨i, c, hi, hc, ei⟩ := sees h.cn kk
  obtain ⟨m, d, hm, hd, em⟩ := sees hS.cn kk
  refine ⟨i, c, m, d, hi, ei, hm, em, ?_⟩
  rw [if_neg fun x => h2 x.1]
  obtain ⟨c', hc', hk', hs'⟩ := hk kk d (List.mem_of_getElem? hm) hd
  obtain ⟨i', hi'⟩ := List.mem_iff_getElem?.1 hc'
  obtain rfl := h.cn.un kk hi' hi hk' hc
  rw [hi] at hi'
  obtain rfl := Option.some.inj hi'
  exact hs'.symm
theorem keeps_law {R : Ro} {k : Int} {key : ByteArray} {z : Int} {j : Bool} (kk : ByteArray) (h : VR R) (hv : R.ver ≤ 1152921504606846976) :
    ((changeR R k key z j).2 ≠ 0 ∧ (changeR R k key z j).1 = Ro.zero) ∨ ((changeR R k key z j).2 = 0 ∧ KeepOk R (changeR R k key z j).1 k key z kk) := by
  unfold changeR
  by_cases h0 : k = 0
  · rw [if_pos h0]
    rcases split_ways (key := key) h hv with hw | ⟨i, c, hi, hin, hne, hlo, hju, hlen, hS⟩
    · exact .inl hw
    · obtain ⟨hV, hK⟩ := split_ok h hi hin hne hlo hlen
      rw [hS]
      exact .inr ⟨rfl, hV, rfl, rfl, .inl rfl, keeps_sh h hV hK (by omega) key z kk⟩
  by_cases h1 : k = 1
  · rw [if_neg h0, if_pos h1]
    rcases join_ways (key := key) h hv with hw | ⟨i, a, b, hi, hj, hlo, hs, hja, hjb, hS⟩
    · exact .inl hw
    · obtain ⟨hV, hK⟩ := join_ok h hi hj hs
      rw [hS]
      exact .inr ⟨rfl, hV, rfl, rfl, .inl rfl, keeps_sh h hV hK (by omega) key z kk⟩
  by_cases h2 : k = 2
  · rw [if_neg h0, if_neg h1, if_pos h2]
    rcases give_ways (key := key) (z := z) h hv with hw | ⟨i, c, hi, hlo, z0, z8, hne, hju, hS⟩
    · exact .inl hw
    · have hV := give_ok h hi z0 z8
      rw [hS]
      refine .inr ⟨rfl, hV, rfl, rfl, .inl rfl, ?_⟩
      obtain ⟨m, d, hm, hd, em⟩ := sees hV.cn kk
      obtain ⟨e, he, e1, e2, e3⟩ := give_get hi m d hm
      have hin : inB kk e = true := by rw [← inB_alike e1 e2]; exact hd
      refine ⟨m, e, m, d, he, idxI_lt he hin fun j x hj hx => h.cn.un kk hj he hx hin, hm, em, ?_⟩
      rw [e3]
      by_cases hmi : m = i
      · subst hmi
        rw [hi] at he
        obtain rfl := Option.some.inj he
        rw [if_pos rfl, if_pos ⟨h2, hlo⟩]
      · rw [if_neg hmi, if_neg]
        rintro ⟨_, hl⟩
        refine hmi ?_
        have hb : begB key e = true := by unfold begB; rw [hl]; simp
        have hb2 : begB key c = true := by unfold begB; rw [hlo]; simp
        exact h.cn.un key he hi (begB_in hb (h.cn.lt e (List.mem_of_getElem? he))) (begB_in hb2 (h.cn.lt c (List.mem_of_getElem? hi)))
  · rw [if_neg h0, if_neg h1, if_neg h2]
    rcases mark_ways (key := key) (j := j) h hv with hw | hw | ⟨i, c, hi, hlo, hS⟩
    · exact .inl hw
    · rw [hw]
      refine .inr ⟨rfl, h, rfl, rfl, .inr ⟨h0, h1, h2, rfl⟩, ?_⟩
      exact keeps_sh h h (fun key c hc hk => ⟨c, hc, hk, rfl⟩) h2 key z kk
    · obtain ⟨hV, hK⟩ := mark_ok (j := j) h hi
      rw [hS]
      exact .inr ⟨rfl, hV, rfl, rfl, .inl rfl, keeps_sh h hV hK h2 key z kk⟩

end Go.Proofs.YtblepmmibhphhaaGreatDoor


/- The contracts of the reference's Find, begin and replace. · The contract of the reference's replace. · The contract of the reference's Mark. Printed by gen_chref2.py. · The contract of the reference's Split. Printed by gen_chref2.py. · The contract of the reference's Join. Printed by gen_chref2.py. · The contract of the reference's Give. Printed by gen_chref2.py. -/
namespace Go.Proofs.YtblepmmibhphhaaGreatDoor
open Go.RowKit

def verC (v : Int) (c : Ch) : Ch := ⟨c.lo, c.hi, c.sh, v, c.ju⟩

set_option maxRecDepth 100000 in
set_option maxHeartbeats 1000000 in
theorem rbegin_any (R : Ro) (a : RA) (key : ByteArray) (w : World) (h : RR w a R) :
    Calls Tryz.prog 63 #[rval a R, .string key] w fun e w' => e = .returned (.int .i64 (idxI (begB key) R.cs)) ∧ Below w.heap.size w w' := by
  obtain ⟨KA, kn, kc, CA, cn, cc⟩ := a
  have H := Lib.hid h
  have hn : Hid (cn = R.cs.length) := h.cs.ln
  have hcz : cn * 56 ≤ reach := h.cs.sz
  have hkn : cn ≤ 140737488355328 := by unfold reach at hcz; omega
  clear h hcz
  have B0 : Hid (Blk (w.alloc (Obj.cells (rarr ⟨KA, kn, kc, CA, cn, cc⟩ R) 45)) w.heap.size 45 (rarr ⟨KA, kn, kc, CA, cn, cc⟩ R)) := Blk.new_at rfl
  have BE : Hid (Below w.heap.size w (w.alloc (Obj.cells (rarr ⟨KA, kn, kc, CA, cn, cc⟩ R) 45))) := (Below.refl _ _).alloc (Nat.le_refl _) _
  go_enter Tryz.func63, Tryz.ntmps63
  go_upto_region 1 with fail
  change (Code.region 1 _ _).wp _ _ _ (w.alloc (Obj.cells (rarr ⟨KA, kn, kc, CA, cn, cc⟩ R) 45))
  generalize w.alloc (Obj.cells (rarr ⟨KA, kn, kc, CA, cn, cc⟩ R) 45) = wa at *
  obtain ⟨q0, q1, q2, q3, q4, q5, qz⟩ := blk_ro B0.out
  simp only at q1 q5
  clear q0 q1 q2 q3 q4
  go_wp2_with fail
  go_loopw [5] (fun v wr => ∃ i : Nat, i ≤ cn ∧ v = .int .i64 i ∧ idxI (begB key) R.cs = idxFrom (begB key) (R.cs.drop i) i ∧ wr = wa) (fun v _ => cn - (intOf v).toNat)
  case atStart => exact ⟨0, Nat.zero_le _, rfl, rfl, rfl⟩
  case round =>
    obtain ⟨i, hi, rfl, ha, rfl⟩ := hrel
    have HA := Lib.hid ha
    clear ha
    by_cases hlt : i < cn
    · obtain ⟨b, off, x, hA, hb, hx, e0, _, _, _, _⟩ := H.out.cs.sr.at5 hlt
      simp only at hA
      subst hA
      have HX := Lib.hid (idxFrom_at (p := begB key) hx)
      have g0 := (BE.out.cell (p := ⟨b, off + i * 5, none⟩) hb).trans e0
      clear hx e0
      cases hq : (x.lo.toList == key.toList)
      · have HF : Hid (idxI (begB key) R.cs = idxFrom (begB key) (R.cs.drop (i + 1)) (i + 1)) := by rw [Hid, HA.out, HX.out]; unfold begB; rw [hq]; rfl
        go_wp2_with fail
        go_roundw
        case rel => exact ⟨i + 1, by omega, by go_num, HF.out, trivial⟩
        case measure => simp [intOf]; omega
      · have HF : Hid (idxI (begB key) R.cs = (i : Int)) := by rw [Hid, HA.out, HX.out]; unfold begB; rw [hq]; rfl
        go_wp2_with fail
        go_ret
        exact ⟨by rw [HF.out]; rfl, BE.out⟩
    · have HF : Hid (idxI (begB key) R.cs = -1) := by rw [Hid, HA.out]; exact idxFrom_end (by have := hn.out; omega)
      go_wp2_with fail
      go_ret
      exact ⟨by rw [HF.out]; rfl, BE.out⟩

theorem leq_lt (x y : List UInt8) : (Op.bytesLess x y || x == y) = !(Op.bytesLess y x) := by
  have irr : ∀ z : List UInt8, Op.bytesLess z z = false := by
    intro z
    induction z with
    | nil => rfl
    | cons a r ih => simp [Op.bytesLess, ih]
  induction x generalizing y with
  | nil => cases y with
    | nil => rfl
    | cons b s => rfl
  | cons a r ih => cases y with
    | nil => rfl
    | cons b s =>
      simp only [Op.bytesLess]
      rcases Nat.lt_trichotomy a.toNat b.toNat with h | h | h
      · have h1 : decide (a < b) = true := decide_eq_true (UInt8.lt_iff_toNat_lt.2 h)
        have h2 : decide (b < a) = false := decide_eq_false (fun k => by have := UInt8.lt_iff_toNat_lt.1 k; omega)
        have h3 : (b == a) = false := by rw [beq_eq_false_iff_ne]; rintro rfl; omega
        rw [h1, h2, h3]
        simp
      · have hab : a = b := UInt8.toNat_inj.1 h
        subst hab
        have h1 : decide (a < a) = false := decide_eq_false (fun k => by have := UInt8.lt_iff_toNat_lt.1 k; omega)
        rw [h1]
        have := ih s
        simpa using this
      · have h1 : decide (a < b) = false := decide_eq_false (fun k => by have := UInt8.lt_iff_toNat_lt.1 k; omega)
        have h2 : decide (b < a) = true := decide_eq_true (UInt8.lt_iff_toNat_lt.2 h)
        have h3 : (a == b) = false := by rw [beq_eq_false_iff_ne]; rintro rfl; omega
        have h4 : (a :: r == b :: s) = false := by rw [beq_eq_false_iff_ne]; intro k; injection k with k; subst k; omega
        rw [h1, h2, h3, h4]
        rfl

set_option maxRecDepth 100000 in
set_option maxHeartbeats 1000000 in
theorem rfind_any (R : Ro) (a : RA) (key : ByteArray) (w : World) (h : RR w a R) :
    Calls Tryz.prog 95 #[rval a R, .string key] w fun e w' => e = .returned (.int .i64 (idxI (inB key) R.cs)) ∧ Below w.heap.size w w' := by
  obtain ⟨KA, kn, kc, CA, cn, cc⟩ := a
  have H := Lib.hid h
  have hn : Hid (cn = R.cs.length) := h.cs.ln
  have hcz : cn * 56 ≤ reach := h.cs.sz
  have hkn : cn ≤ 140737488355328 := by unfold reach at hcz; omega
  clear h hcz
  have B0 : Hid (Blk (w.alloc (Obj.cells (rarr ⟨KA, kn, kc, CA, cn, cc⟩ R) 45)) w.heap.size 45 (rarr ⟨KA, kn, kc, CA, cn, cc⟩ R)) := Blk.new_at rfl
  have BE : Hid (Below w.heap.size w (w.alloc (Obj.cells (rarr ⟨KA, kn, kc, CA, cn, cc⟩ R) 45))) := (Below.refl _ _).alloc (Nat.le_refl _) _
  go_enter Tryz.func95, Tryz.ntmps95
  go_upto_region 1 with fail
  change (Code.region 1 _ _).wp _ _ _ (w.alloc (Obj.cells (rarr ⟨KA, kn, kc, CA, cn, cc⟩ R) 45))
  generalize w.alloc (Obj.cells (rarr ⟨KA, kn, kc, CA, cn, cc⟩ R) 45) = wa at *
  obtain ⟨q0, q1, q2, q3, q4, q5, qz⟩ := blk_ro B0.out
  simp only at q1 q5
  clear q0 q1 q2 q3 q4
  go_wp2_with fail
  go_loopw [5] (fun v wr => ∃ i : Nat, i ≤ cn ∧ v = .int .i64 i ∧ idxI (inB key) R.cs = idxFrom (inB key) (R.cs.drop i) i ∧ wr = wa) (fun v _ => cn - (intOf v).toNat)
  case atStart => exact ⟨0, Nat.zero_le _, rfl, rfl, rfl⟩
  case round =>
    obtain ⟨i, hi, rfl, ha, rfl⟩ := hrel
    have HA := Lib.hid ha
    clear ha
    by_cases hlt : i < cn
    · obtain ⟨b, off, x, hA, hb, hx, e0, e1, _, _, _⟩ := H.out.cs.sr.at5 hlt
      simp only at hA
      subst hA
      have HX := Lib.hid (idxFrom_at (p := inB key) hx)
      have g0 := (BE.out.cell (p := ⟨b, off + i * 5, none⟩) hb).trans e0
      have g1 := (BE.out.cell (p := ⟨b, off + i * 5 + 1, none⟩) hb).trans e1
      have HIN : Hid (inB key x = ((Op.bytesLess x.lo.toList key.toList || x.lo.toList == key.toList) && (x.hi.toList == [] || Op.bytesLess key.toList x.hi.toList))) := by rw [Hid, leq_lt]; rfl
      clear hx e0 e1
      cases h1 : Op.bytesLess x.lo.toList key.toList
      cases h2 : (x.lo.toList == key.toList)
      · have HF : Hid (idxI (inB key) R.cs = idxFrom (inB key) (R.cs.drop (i + 1)) (i + 1)) := by rw [Hid, HA.out, HX.out, HIN.out, h1, h2]; rfl
        go_wp2_with fail
        go_roundw
        case rel => exact ⟨i + 1, by omega, by go_num, HF.out, trivial⟩
        case measure => simp [intOf]; omega
      all_goals
        cases h3 : (x.hi.toList == [])
        cases h4 : Op.bytesLess key.toList x.hi.toList
        · have HF : Hid (idxI (inB key) R.cs = idxFrom (inB key) (R.cs.drop (i + 1)) (i + 1)) := by rw [Hid, HA.out, HX.out, HIN.out, h3, h4]; simp
          go_wp2_with fail
          go_roundw
          case rel => exact ⟨i + 1, by omega, by go_num, HF.out, trivial⟩
          case measure => simp [intOf]; omega
        · have HF : Hid (idxI (inB key) R.cs = (i : Int)) := by
            rw [Hid, HA.out, HX.out, HIN.out, h1, h3, h4]
            first | rfl | (rw [h2]; rfl)
          go_wp2_with fail
          go_ret
          exact ⟨by rw [HF.out]; rfl, BE.out⟩
        · have HF : Hid (idxI (inB key) R.cs = (i : Int)) := by
            rw [Hid, HA.out, HX.out, HIN.out, h1, h3]
            first | rfl | (rw [h2]; rfl)
          go_wp2_with fail
          go_ret
          exact ⟨by rw [HF.out]; rfl, BE.out⟩
    · have HF : Hid (idxI (inB key) R.cs = -1) := by rw [Hid, HA.out]; exact idxFrom_end (by have := hn.out; omega)
      go_wp2_with fail
      go_ret
      exact ⟨by rw [HF.out]; rfl, BE.out⟩

end Go.Proofs.YtblepmmibhphhaaGreatDoor

namespace Go.Proofs.YtblepmmibhphhaaGreatDoor
open Go.RowKit

/-- what replace hands back: the orders of the argument, and chunks in a row of its own -/
def RepOk (a : RA) (R : Ro) (cs : List Ch) (w : World) (e : Ending) (w' : World) : Prop :=
  ∃ (A : Option Addr) (c : Nat), e = .returned (rval ⟨a.KA, a.kn, a.kc, A, cs.length, c⟩ R.nx) ∧ w'.ownsRow w.heap.size 58 5 (.slice A cs.length c) cs.length (flat recC cs) ∧ Below w.heap.size w w'

/-- the state of replace's loop -/
structure Rpl (w : World) (a : RA) (R : Ro) (v : Value) (n : Nat) (cs : List Ch) (wr : World) : Prop where
  b0 : Blk wr w.heap.size 45 (rarr a R.nx)
  b1 : Blk wr (w.heap.size + 1) 45 (rarr RA.zero Ro.zero)
  own : wr.ownsRow (w.heap.size + 2) 58 5 v n (flat recC cs)
  bel : Below w.heap.size w wr
theorem Rpl.step {w wr w1 : World} {a : RA} {R : Ro} {v : Value} {n : Nat} {cs : List Ch} (h : Rpl w a R v n cs wr) (hb : Below wr.heap.size wr w1) : Rpl w a R v n cs w1 := ⟨h.b0.step hb, h.b1.step hb, own_step h.own hb, h.bel.step' hb⟩
theorem Rpl.grow {w wr w1 : World} {a : RA} {R : Ro} {v v' : Value} {n n' : Nat} {cs ds : List Ch} (h : Rpl w a R v n cs wr) (hg : wr.grownBy w1 v.ownBlock) (ho : w1.ownsRow (w.heap.size + 2) 58 5 v' n' (flat recC ds)) : Rpl w a R v' n' ds w1 := by
  have hge := own_ge h.own
  refine ⟨h.b0.grown hg (fun e => by have := hge _ e.symm; omega), h.b1.grown hg (fun e => by have := hge _ e.symm; omega), ho, h.bel.grown hg ?_ fun k hk => ?_⟩
  · have := h.b1.lt; omega
  · have := hge k hk; omega

set_option maxRecDepth 100000 in
set_option maxHeartbeats 1000000 in
theorem replace_any (R : Ro) (a : RA) (i n lb : Nat) (L : List Ch) (ia na : Int) (w : World) (h : RR w a R) (hL : Blk w lb 58 (flat recC L).toArray) (hin : i + n ≤ R.cs.length) (hn0 : 0 < n) (hm : L.length ≤ 2) (hz : R.cs.length ≤ 80) (hia : ia = (i : Nat)) (hna : na = (n : Nat)) :
    Calls Tryz.prog 64 #[rval a R, .int .i64 ia, .int .i64 na, .slice (some ⟨lb, 0, none⟩) L.length L.length] w (RepOk a R (repl R.cs i n (L.map (verC (nx R.ver)))) w) := by
  subst hia hna
  obtain ⟨KA, kn, kc, CA, cn, cc⟩ := a
  obtain ⟨j0, hj0, hy0, hy1, hy2⟩ := info_parts info_chunk
  have H := Lib.hid h
  have hn : Hid (cn = R.cs.length) := h.cs.ln
  have hcc : Hid (cn ≤ cc) := h.cs.sr.lc
  have HR := Lib.hid (h.cs.sr.reads recC_length (by omega))
  have HL := Lib.hid hL
  obtain ⟨m, hml⟩ : ∃ m, m = L.length := ⟨_, rfl⟩
  rw [← hml] at hm ⊢
  have HM := Lib.hid hml
  have hcn : cn ≤ 80 := by rw [hn.out]; exact hz
  have hicn : i + n ≤ cn := by rw [hn.out]; exact hin
  clear h hL hin hz hml
  have B0 : Hid (Blk ((w.alloc (Obj.cells (rarr ⟨KA, kn, kc, CA, cn, cc⟩ R) 45)).alloc (Obj.cells (rarr RA.zero Ro.zero) 45)) w.heap.size 45 (rarr ⟨KA, kn, kc, CA, cn, cc⟩ R)) := (Blk.new_at rfl).alloc _
  have B1 : Hid (Blk ((w.alloc (Obj.cells (rarr ⟨KA, kn, kc, CA, cn, cc⟩ R) 45)).alloc (Obj.cells (rarr RA.zero Ro.zero) 45)) (w.heap.size + 1) 45 (rarr RA.zero Ro.zero)) := Blk.new_at (by simp)
  have BE : Hid (Below w.heap.size w ((w.alloc (Obj.cells (rarr ⟨KA, kn, kc, CA, cn, cc⟩ R) 45)).alloc (Obj.cells (rarr RA.zero Ro.zero) 45))) := ((Below.refl _ _).alloc (Nat.le_refl _) _).alloc (by simp) _
  go_enter Tryz.func64, Tryz.ntmps64
  go_upto_region 1 with fail
  change (Code.region 1 _ _).wp _ _ _ ((w.alloc (Obj.cells (rarr ⟨KA, kn, kc, CA, cn, cc⟩ R) 45)).alloc (Obj.cells (rarr RA.zero Ro.zero) 45))
  generalize (w.alloc (Obj.cells (rarr ⟨KA, kn, kc, CA, cn, cc⟩ R) 45)).alloc (Obj.cells (rarr RA.zero Ro.zero) 45) = wa at *
  obtain ⟨q0, q1, q2, q3, q4, q5, qz⟩ := blk_ro B0.out
  simp only at q1 q5
  have I0 : Hid (Rpl w ⟨KA, kn, kc, CA, cn, cc⟩ R (.slice none 0 0) 0 [] (wa.setCell ⟨w.heap.size, 4, none⟩ (.int .i64 (nx R.ver)))) :=
    ⟨B0.out.set_ 4 _, B1.out.far (by show w.heap.size + 1 ≠ w.heap.size; omega) _, own_nil _ _ _ _, BE.out.setCell (Nat.le_refl _) _⟩
  go_upto_region 2 with fail
  clear q0 q1 q2 q3 q4 q5 qz B0 B1 BE
  change (Code.region 2 _ _).wp _ _ _ (wa.setCell ⟨w.heap.size, 4, none⟩ (.int .i64 (nx R.ver)))
  generalize wa.setCell ⟨w.heap.size, 4, none⟩ (.int .i64 (nx R.ver)) = w1 at *
  obtain ⟨q0, q1, q2, q3, q4, q5, qz⟩ := blk_ro I0.out.b0
  simp only at q1 q5
  have hiI : (i : Int) ≤ (cc : Int) := by have := hcc.out; omega
  have hiN : i ≤ cc := by have := hcc.out; omega
  have H1 := Lib.hid (flat_one recC_one (R.cs.take i))
  have HR1 : Hid (Reads w1 w.heap.size 5 CA i (flat recC (R.cs.take i))) := by
    have := (HR.out.below I0.out.bel).take (k := i) (by show i ≤ cn; omega)
    rw [flat_take recC_length] at this
    exact this
  have hsz1 : w.heap.size + 2 ≤ w1.heap.size := I0.out.b1.lt
  go_wp2_with (at_builtin; refine wpList_append_any _ rfl _ _ 43 rfl (w.heap.size + 2) 58 j0 (aggC Ch.zero) 5 56 Tryz.underlying43 hj0 hy0 hy1 hy2 rfl (by decide) (.slice none 0 0) 0 [] rfl I0.out.own w.heap.size CA i cc (flat recC (R.cs.take i)) rfl HR1.out H1.out (by unfold maxLen; omega) (by omega) hsz1 ?_)
  intro v' w2 hown2 hg2 _
  have htl : (R.cs.take i).length = i := by rw [List.length_take, Nat.min_eq_left (by have := hn.out; omega)]
  have I2 : Hid (Rpl w ⟨KA, kn, kc, CA, cn, cc⟩ R v' i (R.cs.take i) w2) := I0.out.grow hg2 (by simpa using hown2)
  obtain ⟨A2, c2, rfl, _⟩ := own_slice hown2
  clear q0 q1 q2 q3 q4 q5 qz I0 HR1 H1 hown2 hg2 hsz1
  go_wp2_with fail
  obtain ⟨wo, hwo⟩ : ∃ wo : World, wo = w2 := ⟨_, rfl⟩
  rw [← hwo] at I2 ⊢
  clear hwo
  go_loopw [10, 9] (fun v10 v9 wr => ∃ (k : Nat) (A : Option Addr) (c : Nat), k ≤ m ∧ v10 = .int .i64 k ∧ v9 = .slice A (i + k) c ∧ Rpl w ⟨KA, kn, kc, CA, cn, cc⟩ R (.slice A (i + k) c) (i + k) (R.cs.take i ++ (L.map (verC (nx R.ver))).take k) wr) (fun v _ _ => m - (intOf v).toNat)
  case atStart => exact ⟨0, A2, c2, Nat.zero_le _, rfl, rfl, by simpa using I2.out⟩
  case round =>
    obtain ⟨k, A, c, hk, rfl, rfl, I⟩ := hrel
    have J := Lib.hid I
    clear I2
    have hNl := I.b1.lt
    have hNl0 : w.heap.size < wr.heap.size := by omega
    by_cases hlt : k < m
    · obtain ⟨x, hx⟩ : ∃ x, L[k]? = some x := ⟨_, List.getElem?_eq_getElem (by rw [← HM.out]; exact hlt)⟩
      have HX := Lib.hid hx
      have hbl := I.bel
      have hlc : ∀ j v, (recC x)[j]? = some v → wr.cell? ⟨lb, k * 5 + j, none⟩ = some v := fun j v hv => by
        rw [(HL.out.step hbl).cell, List.getElem?_toArray]
        exact flat_get recC_length hx hv
      obtain ⟨xlo, xhi, xsh, xver, xju⟩ := x
      have g0 := hlc 0 _ rfl
      have g1 := hlc 1 _ rfl
      have g2 := hlc 2 _ rfl
      have g3 := hlc 3 _ rfl
      have g4 := hlc 4 _ rfl
      simp only [Nat.add_zero] at g0
      have q4 : wr.cell? ⟨w.heap.size, 4, none⟩ = some (.int .i64 (nx R.ver)) := (blk_ro I.b0).2.2.2.2.1
      have K := Lib.hid ((J.out.step ((Below.refl wr.heap.size wr).alloc (Nat.le_refl _) (Obj.cells #[.string xlo, .string xhi, .int .i64 xsh, .int .i64 (nx R.ver), .bool xju] 58))).step ((Below.refl _ _).alloc (Nat.le_refl _) (Obj.cells #[.string xlo, .string xhi, .int .i64 xsh, .int .i64 (nx R.ver), .bool xju] 58)))
      have HRx : Hid (Reads ((wr.alloc (Obj.cells #[.string xlo, .string xhi, .int .i64 xsh, .int .i64 (nx R.ver), .bool xju] 58)).alloc (Obj.cells #[.string xlo, .string xhi, .int .i64 xsh, .int .i64 (nx R.ver), .bool xju] 58)) (wr.heap.size + 2) 5 (some ⟨wr.heap.size + 1, 0, none⟩) 1 (recC ⟨xlo, xhi, xsh, nx R.ver, xju⟩)) := by
        refine ⟨rfl, fun _ => ⟨_, rfl, by show wr.heap.size + 1 < wr.heap.size + 2; omega, fun j u hu => ?_⟩⟩
        have := news_at (wr.alloc (Obj.cells #[.string xlo, .string xhi, .int .i64 xsh, .int .i64 (nx R.ver), .bool xju] 58)) 58 (recC ⟨xlo, xhi, xsh, nx R.ver, xju⟩) j u hu
        rw [size_alloc] at this
        exact this
      have hik : i + k ≤ 82 := by omega
      have H1x := Lib.hid (recC_one ⟨xlo, xhi, xsh, nx R.ver, xju⟩)
      clear hx hlc hbl I
      go_wp2_with (at_builtin; refine wpList_append_any _ rfl _ _ 43 rfl (w.heap.size + 2) 58 j0 (aggC Ch.zero) 5 56 Tryz.underlying43 hj0 hy0 hy1 hy2 rfl (by decide) (.slice A (i + k) c) (i + k) (flat recC (R.cs.take i ++ (L.map (verC (nx R.ver))).take k)) rfl K.out.own (wr.heap.size + 2) (some ⟨wr.heap.size + 1, 0, none⟩) 1 1 (recC ⟨xlo, xhi, xsh, nx R.ver, xju⟩) rfl HRx.out H1x.out (by unfold maxLen; omega) (by omega) (by simp; omega) ?_)
      intro v' w4 hown4 hg4 _
      have K4 : Hid (Rpl w ⟨KA, kn, kc, CA, cn, cc⟩ R v' (i + (k + 1)) (R.cs.take i ++ (L.map (verC (nx R.ver))).take (k + 1)) w4) := by
        refine K.out.grow hg4 ?_
        rw [List.take_add_one, List.getElem?_map, HX.out, Option.map_some, Option.toList_some, ← List.append_assoc, flat_snoc]
        exact hown4
      obtain ⟨A4, c4, rfl, _⟩ := own_slice hown4
      clear K HRx H1x hown4 hg4 g0 g1 g2 g3 g4 q4
      go_wp2_with fail
      go_roundw
      case rel => exact ⟨k + 1, A4, c4, by omega, by go_num, rfl, K4.out⟩
      case measure => simp [intOf]; omega
    · obtain rfl : k = m := by omega
      obtain ⟨b, off, hA, hbw, _⟩ := H.out.cs.sr.el (by show 0 < cn; omega)
      simp only at hA
      subst hA
      have q5 : wr.cell? ⟨w.heap.size, 5, none⟩ = some (.slice (some ⟨b, off, none⟩) cn cc) := (blk_ro I.b0).2.2.2.2.2.1
      have e1 : IntKind.i64.wrap ((i : Int) + (n : Int)) = ((i + n : Nat) : Int) := by rw [IntKind.wrap_i64]; omega
      have e2 : (0 : Int) ≤ (i : Int) + (n : Int) := by omega
      have e3 : (i : Int) + (n : Int) ≤ (cn : Int) := by omega
      have e4 : ((i : Int) + (n : Int)).toNat = i + n := by omega
      have e5 : ((i + n : Nat) : Int) = (i : Int) + (n : Int) := by omega
      rw [e5] at e1
      obtain ⟨A2', hA2, HR2⟩ : ∃ A2' : Addr, (if cc = i + n then some (⟨b, off, none⟩ : Addr) else some ⟨b, off + (i + n) * 5, none⟩) = some A2' ∧ Hid (Reads wr w.heap.size 5 (some A2') (cn - (i + n)) (flat recC (R.cs.drop (i + n)))) := by
        have hcut := (HR.out.below I.bel).cut (k := i + n) (by omega) hcc.out
        rw [flat_drop recC_length] at hcut
        by_cases hq : cc = i + n
        · rw [if_pos hq] at hcut ⊢
          exact ⟨_, rfl, hcut⟩
        · rw [if_neg hq] at hcut ⊢
          exact ⟨_, rfl, by rw [Hid]; simpa [addr_add] using hcut⟩
      have HFL := Lib.hid (flat_one recC_one (R.cs.drop (i + n)))
      have hszr : w.heap.size + 2 ≤ wr.heap.size := by omega
      have hik : i + k ≤ 82 := by omega
      clear I
      go_wp2_with (at_builtin; (first | rw [hA2] | skip); refine wpList_append_any _ rfl _ _ 43 rfl (w.heap.size + 2) 58 j0 (aggC Ch.zero) 5 56 Tryz.underlying43 hj0 hy0 hy1 hy2 rfl (by decide) (.slice A (i + k) c) (i + k) (flat recC (R.cs.take i ++ (L.map (verC (nx R.ver))).take k)) rfl J.out.own w.heap.size (some A2') (cn - (i + n)) (cc - (i + n)) (flat recC (R.cs.drop (i + n))) rfl HR2.out HFL.out (by unfold maxLen; omega) (by omega) hszr ?_)
      intro v' w5 hown5 hg5 _
      have hML : (L.map (verC (nx R.ver))).take k = L.map (verC (nx R.ver)) := List.take_of_length_le (by rw [List.length_map, ← HM.out]; exact Nat.le_refl _)
      have hlen : (repl R.cs i n (L.map (verC (nx R.ver)))).length = i + k + (cn - (i + n)) := by
        unfold repl
        rw [List.length_append, List.length_append, List.length_take, List.length_map, List.length_drop, ← hn.out, ← HM.out, Nat.min_eq_left (by omega)]
      rw [← flat_append, hML] at hown5
      have J5 : Hid (Rpl w ⟨KA, kn, kc, some ⟨b, off, none⟩, cn, cc⟩ R v' (i + k + (cn - (i + n))) (repl R.cs i n (L.map (verC (nx R.ver)))) w5) := J.out.grow hg5 hown5
      obtain ⟨A5, c5, rfl, _⟩ := own_slice hown5
      rw [← hlen] at J5 ⊢
      clear hown5 hg5 J HR2 HFL q5 hA2 e1 e2 e3 e4 e5
      generalize repl R.cs i n (L.map (verC (nx R.ver))) = Z at *
      obtain ⟨q0, q1, q2, q3, q4, q5, qz⟩ := blk_ro J5.out.b0
      simp only at q1 q5
      have hge := own_ge J5.out.own
      have G0 : Hid (Blk (w5.setCell ⟨w.heap.size, 5, none⟩ (.slice A5 Z.length c5)) w.heap.size 45 (rarr ⟨KA, kn, kc, A5, Z.length, c5⟩ R.nx)) := J5.out.b0.set_ 5 _
      have G1 : Hid (Blk (w5.setCell ⟨w.heap.size, 5, none⟩ (.slice A5 Z.length c5)) (w.heap.size + 1) 45 (rarr RA.zero Ro.zero)) := J5.out.b1.far (by show w.heap.size + 1 ≠ w.heap.size; omega) _
      have G2 := Lib.hid (own_far J5.out.own (p := ⟨w.heap.size, 5, none⟩) (fun e => by have := hge _ e; simp only at this; omega) (.slice A5 Z.length c5))
      have G4 : Hid (Below w.heap.size w (w5.setCell ⟨w.heap.size, 5, none⟩ (.slice A5 Z.length c5))) := J5.out.bel.setCell (Nat.le_refl _) _
      clear hge J5 hlen hML
      go_upto_region 11 with fail
      clear q0 q1 q2 q3 q4 q5 qz
      generalize w5.setCell ⟨w.heap.size, 5, none⟩ (.slice A5 Z.length c5) = w6 at *
      obtain ⟨q0, q1, q2, q3, q4, q5, qz⟩ := blk_ro G0.out
      simp only at q1 q5
      obtain ⟨r0, r1, r2, r3, r4, r5, rz⟩ := blk_ro G1.out
      have E0 := Lib.hid (G1.out.putR (a := ⟨KA, kn, kc, A5, Z.length, c5⟩) (R := R.nx))
      have E1 : Hid ((setR w6 (w.heap.size + 1) ⟨KA, kn, kc, A5, Z.length, c5⟩ R.nx).ownsRow w.heap.size 58 5 (.slice A5 Z.length c5) Z.length (flat recC Z)) :=
        own_mono (own_keep G2.out fun g hg => heap_setR _ _ _ _ g (by have := own_ge G2.out g hg; omega)) (by omega)
      have E2 : Hid (Below w.heap.size w (setR w6 (w.heap.size + 1) ⟨KA, kn, kc, A5, Z.length, c5⟩ R.nx)) := below_setR G4.out (by omega) _ _
      clear G0 G1 G2 G4
      go_wp2_with fail
      clear q0 q1 q2 q3 q4 q5 qz r0 r1 r2 r3 r4 r5 rz
      refine bodyPost_ret (results_ro rfl _ (w.heap.size + 1) rfl _ ⟨KA, kn, kc, A5, Z.length, c5⟩ R.nx E0.out) rfl ?_
      exact ⟨A5, c5, rfl, E1.out, E2.out⟩

end Go.Proofs.YtblepmmibhphhaaGreatDoor

namespace Go.Proofs.YtblepmmibhphhaaGreatDoor
open Go.RowKit

theorem repl_len' {α : Type} {l : List α} {i n : Nat} {new : List α} : (repl l i n new).length ≤ l.length + new.length + l.length := by unfold repl; simp; omega

end Go.Proofs.YtblepmmibhphhaaGreatDoor

namespace Go.Proofs.YtblepmmibhphhaaGreatDoor
open Go.RowKit

end Go.Proofs.YtblepmmibhphhaaGreatDoor

namespace Go.Proofs.YtblepmmibhphhaaGreatDoor
open Go.RowKit

end Go.Proofs.YtblepmmibhphhaaGreatDoor

namespace Go.Proofs.YtblepmmibhphhaaGreatDoor
open Go.RowKit

set_option maxRecDepth 100000 in
set_option maxHeartbeats 800000 in
theorem rgive_any (R : Ro) (a : RA) (key : ByteArray) (z : Int) (w : World) (h : RR w a R) (h80 : R.cs.length ≤ 80) : Calls Tryz.prog 32 #[rval a R, .string key, .int .i64 z] w (RouOk (giveR R key z) w) := by
  obtain ⟨KA, kn, kc, CA, cn, cc⟩ := a
  have H := Lib.hid h
  clear h
  have B0 : Hid (Blk ((w.alloc (Obj.cells (rarr ⟨KA, kn, kc, CA, cn, cc⟩ R) 45)).alloc (Obj.cells (rarr RA.zero Ro.zero) 45)) w.heap.size 45 (rarr ⟨KA, kn, kc, CA, cn, cc⟩ R)) := (Blk.new_at rfl).alloc _
  have B1 : Hid (Blk ((w.alloc (Obj.cells (rarr ⟨KA, kn, kc, CA, cn, cc⟩ R) 45)).alloc (Obj.cells (rarr RA.zero Ro.zero) 45)) (w.heap.size + 1) 45 (rarr RA.zero Ro.zero)) := Blk.new_at (by simp)
  have BE : Hid (Below w.heap.size w ((w.alloc (Obj.cells (rarr ⟨KA, kn, kc, CA, cn, cc⟩ R) 45)).alloc (Obj.cells (rarr RA.zero Ro.zero) 45))) := ((Below.refl _ _).alloc (Nat.le_refl _) _).alloc (by simp) _
  go_enter Tryz.func32, Tryz.ntmps32
  go_upto_region 1 with fail
  change (Code.region 1 _ _).wp _ _ _ ((w.alloc (Obj.cells (rarr ⟨KA, kn, kc, CA, cn, cc⟩ R) 45)).alloc (Obj.cells (rarr RA.zero Ro.zero) 45))
  generalize (w.alloc (Obj.cells (rarr ⟨KA, kn, kc, CA, cn, cc⟩ R) 45)).alloc (Obj.cells (rarr RA.zero Ro.zero) 45) = wa at *
  obtain ⟨q0, q1, q2, q3, q4, q5, qz⟩ := blk_ro B0.out
  simp only at q1 q5
  go_wp2_with fail
  clear q0 q1 q2 q3 q4 q5 qz
  refine (rbegin_any R ⟨KA, kn, kc, CA, cn, cc⟩ key wa (H.out.step BE.out)).mono ?_
  rintro e w2 ⟨rfl, hb1⟩
  have F0 := Lib.hid (B0.out.step hb1)
  have F1 := Lib.hid (B1.out.step hb1)
  have FE := Lib.hid (BE.out.step' hb1)
  clear hb1 B0 B1 BE
  rcases idxI_range (begB key) R.cs with ⟨hf, _⟩ | ⟨i, c, hf, hic, hin, _⟩
  · rw [hf]
    have HVE : Hid (giveR R key z = (Ro.zero, 15)) := by unfold Hid giveR; rw [hf]; rfl
    obtain ⟨r0, r1, r2, r3, r4, r5, rz⟩ := blk_ro F1.out
    have E := Lib.hid (change_err 15 F1.out (by omega) FE.out)
    go_wp2_with fail
    refine bodyPost_ret (results_ro_err rfl _ (w.heap.size + 1) rfl _ rfl _ RA.zero Ro.zero E.out.2) rfl ?_
    exact E.out.1.eq HVE.out
  rw [hf]
  have HV : Hid (giveR R key z = if z < 0 ∨ 8 ≤ z then (Ro.zero, 1) else if c.sh = z ∨ c.ju = true then (Ro.zero, 23) else (⟨R.sp, R.ks, R.ha, R.ep, nx R.ver, touch (repl R.cs i 1 [⟨c.lo, c.hi, z, nx R.ver, c.ju⟩]) c.sh (nx R.ver)⟩, 0)) := by
    unfold Hid giveR
    rw [if_neg (by omega), hf, Int.toNat_natCast, hic]
  have hn : Hid (cn = R.cs.length) := H.out.cs.ln
  have HIC := Lib.hid hic
  clear hic hin hf
  obtain ⟨q0, q1, q2, q3, q4, q5, qz⟩ := blk_ro F0.out
  simp only at q1 q5
  have hicn : i < cn := by rw [hn.out]; exact (List.getElem?_eq_some_iff.1 HIC.out).1
  have hnk : Hid (i + 1 ≤ R.cs.length) := (List.getElem?_eq_some_iff.1 HIC.out).1
  obtain ⟨b, off, x, hA, hbl, hx, e0, e1, e2, e3, e4⟩ := H.out.cs.sr.at5 hicn
  rw [HIC.out] at hx
  injection hx with hx
  subst hx
  simp only at hA
  subst hA
  have bc := fun o => FE.out.cell (p := ⟨b, o, none⟩) hbl
  replace e0 := (bc _).trans e0
  replace e1 := (bc _).trans e1
  replace e2 := (bc _).trans e2
  replace e3 := (bc _).trans e3
  replace e4 := (bc _).trans e4
  clear bc
  obtain ⟨clo, chi, csh, cver, cju⟩ := c
  simp only at e0 e1 e2 e3 e4 HV
  by_cases hz0 : z < 0
  · have HVE : Hid (giveR R key z = (Ro.zero, 1)) := by rw [Hid, HV.out, if_pos (.inl hz0)]
    obtain ⟨r0, r1, r2, r3, r4, r5, rz⟩ := blk_ro F1.out
    have E := Lib.hid (change_err 1 F1.out (by omega) FE.out)
    go_wp2_with fail
    refine bodyPost_ret (results_ro_err rfl _ (w.heap.size + 1) rfl _ rfl _ RA.zero Ro.zero E.out.2) rfl ?_
    exact E.out.1.eq HVE.out
  by_cases hz8 : 8 ≤ z
  · have HVE : Hid (giveR R key z = (Ro.zero, 1)) := by rw [Hid, HV.out, if_pos (.inr hz8)]
    obtain ⟨r0, r1, r2, r3, r4, r5, rz⟩ := blk_ro F1.out
    have E := Lib.hid (change_err 1 F1.out (by omega) FE.out)
    go_wp2_with fail
    refine bodyPost_ret (results_ro_err rfl _ (w.heap.size + 1) rfl _ rfl _ RA.zero Ro.zero E.out.2) rfl ?_
    exact E.out.1.eq HVE.out
  cases hsz : (csh == z)
  rotate_left
  · have HVE : Hid (giveR R key z = (Ro.zero, 23)) := by rw [Hid, HV.out, if_neg (by omega), if_pos (.inl (by simpa using hsz))]
    go_upto_region 9 with fail
    clear q0 q1 q2 q3 q4 q5 qz e0 e1 e2 e3 e4
    have hU : w.heap.size + 1 < w2.heap.size := F1.out.lt
    have P0 := Lib.hid (F0.out.alloc (Obj.cells #[.string clo, .string chi, .int .i64 csh, .int .i64 cver, .bool cju] 58))
    have P1 := Lib.hid (F1.out.alloc (Obj.cells #[.string clo, .string chi, .int .i64 csh, .int .i64 cver, .bool cju] 58))
    have PE := Lib.hid (FE.out.alloc FE.out.size (Obj.cells #[.string clo, .string chi, .int .i64 csh, .int .i64 cver, .bool cju] 58))
    have PC : Hid (Blk (w2.alloc (Obj.cells #[.string clo, .string chi, .int .i64 csh, .int .i64 cver, .bool cju] 58)) w2.heap.size 58 #[.string clo, .string chi, .int .i64 csh, .int .i64 cver, .bool cju]) := Blk.new_at rfl
    change (Code.region 9 _ _).wp _ _ _ (w2.alloc (Obj.cells #[.string clo, .string chi, .int .i64 csh, .int .i64 cver, .bool cju] 58))
    generalize w2.alloc (Obj.cells #[.string clo, .string chi, .int .i64 csh, .int .i64 cver, .bool cju] 58) = w3 at *
    generalize w2.heap.size = U at *
    have u0 := PC.out.cell 0
    have u1 := PC.out.cell 1
    have u2 := PC.out.cell 2
    have u3 := PC.out.cell 3
    have u4 := PC.out.cell 4
    simp at u0 u1 u2 u3 u4
    obtain ⟨r0, r1, r2, r3, r4, r5, rz⟩ := blk_ro P1.out
    have E := Lib.hid (change_err 23 P1.out (by omega) PE.out)
    go_wp2_with fail
    refine bodyPost_ret (results_ro_err rfl _ (w.heap.size + 1) rfl _ rfl _ RA.zero Ro.zero E.out.2) rfl ?_
    exact E.out.1.eq HVE.out
  cases cju
  rotate_left
  · have HVE : Hid (giveR R key z = (Ro.zero, 23)) := by rw [Hid, HV.out, if_neg (by omega), if_pos (.inr rfl)]
    go_upto_region 9 with fail
    clear q0 q1 q2 q3 q4 q5 qz e0 e1 e2 e3 e4
    have hU : w.heap.size + 1 < w2.heap.size := F1.out.lt
    have P0 := Lib.hid (F0.out.alloc (Obj.cells #[.string clo, .string chi, .int .i64 csh, .int .i64 cver, .bool true] 58))
    have P1 := Lib.hid (F1.out.alloc (Obj.cells #[.string clo, .string chi, .int .i64 csh, .int .i64 cver, .bool true] 58))
    have PE := Lib.hid (FE.out.alloc FE.out.size (Obj.cells #[.string clo, .string chi, .int .i64 csh, .int .i64 cver, .bool true] 58))
    have PC : Hid (Blk (w2.alloc (Obj.cells #[.string clo, .string chi, .int .i64 csh, .int .i64 cver, .bool true] 58)) w2.heap.size 58 #[.string clo, .string chi, .int .i64 csh, .int .i64 cver, .bool true]) := Blk.new_at rfl
    change (Code.region 9 _ _).wp _ _ _ (w2.alloc (Obj.cells #[.string clo, .string chi, .int .i64 csh, .int .i64 cver, .bool true] 58))
    generalize w2.alloc (Obj.cells #[.string clo, .string chi, .int .i64 csh, .int .i64 cver, .bool true] 58) = w3 at *
    generalize w2.heap.size = U at *
    have u0 := PC.out.cell 0
    have u1 := PC.out.cell 1
    have u2 := PC.out.cell 2
    have u3 := PC.out.cell 3
    have u4 := PC.out.cell 4
    simp at u0 u1 u2 u3 u4
    obtain ⟨r0, r1, r2, r3, r4, r5, rz⟩ := blk_ro P1.out
    have E := Lib.hid (change_err 23 P1.out (by omega) PE.out)
    go_wp2_with fail
    refine bodyPost_ret (results_ro_err rfl _ (w.heap.size + 1) rfl _ rfl _ RA.zero Ro.zero E.out.2) rfl ?_
    exact E.out.1.eq HVE.out
  have HVS : Hid (giveR R key z = (⟨R.sp, R.ks, R.ha, R.ep, nx R.ver, touch (repl R.cs i 1 [⟨clo, chi, z, nx R.ver, false⟩]) csh (nx R.ver)⟩, 0)) := by
    rw [Hid, HV.out, if_neg (by omega), if_neg (by simpa using hsz)]
  go_upto_region 11 with fail
  clear q0 q1 q2 q3 q4 q5 qz e0 e1 e2 e3 e4
  have hU : w.heap.size + 1 < w2.heap.size := F1.out.lt
  have P0 := Lib.hid (F0.out.alloc (Obj.cells #[.string clo, .string chi, .int .i64 z, .int .i64 cver, .bool false] 58))
  have P1 := Lib.hid (F1.out.alloc (Obj.cells #[.string clo, .string chi, .int .i64 z, .int .i64 cver, .bool false] 58))
  have PE := Lib.hid (FE.out.alloc FE.out.size (Obj.cells #[.string clo, .string chi, .int .i64 z, .int .i64 cver, .bool false] 58))
  have PC : Hid (Blk (w2.alloc (Obj.cells #[.string clo, .string chi, .int .i64 z, .int .i64 cver, .bool false] 58)) w2.heap.size 58 #[.string clo, .string chi, .int .i64 z, .int .i64 cver, .bool false]) := Blk.new_at rfl
  change (Code.region 11 _ _).wp _ _ _ (w2.alloc (Obj.cells #[.string clo, .string chi, .int .i64 z, .int .i64 cver, .bool false] 58))
  generalize w2.alloc (Obj.cells #[.string clo, .string chi, .int .i64 z, .int .i64 cver, .bool false] 58) = w3 at *
  generalize w2.heap.size = U at *
  have u0 := PC.out.cell 0
  have u1 := PC.out.cell 1
  have u2 := PC.out.cell 2
  have u3 := PC.out.cell 3
  have u4 := PC.out.cell 4
  simp at u0 u1 u2 u3 u4
  obtain ⟨q0, q1, q2, q3, q4, q5, qz⟩ := blk_ro P0.out
  simp only at q1 q5
  have AL := Lib.hid ((Below.refl w3.heap.size w3).alloc (Nat.le_refl _) (Obj.cells #[.string clo, .string chi, .int .i64 z, .int .i64 cver, .bool false] 58))
  have HLB : Hid (Blk (w3.alloc (Obj.cells #[.string clo, .string chi, .int .i64 z, .int .i64 cver, .bool false] 58)) w3.heap.size 58 (flat recC [⟨clo, chi, z, cver, false⟩]).toArray) := Blk.new_at rfl
  have G0 := Lib.hid (P0.out.step AL.out)
  have G1 := Lib.hid (P1.out.step AL.out)
  have GE := Lib.hid (PE.out.step' AL.out)
  have HRP := Lib.hid (replace_any R ⟨KA, kn, kc, some ⟨b, off, none⟩, cn, cc⟩ i 1 w3.heap.size [⟨clo, chi, z, cver, false⟩] (i : Nat) (1 : Nat) (w3.alloc (Obj.cells #[.string clo, .string chi, .int .i64 z, .int .i64 cver, .bool false] 58)) (H.out.step GE.out) HLB.out hnk.out (by decide) (by simp) h80 rfl rfl)
  clear AL HLB
  go_wp2_with fail
  clear q0 q1 q2 q3 q4 q5 qz u0 u1 u2 u3 u4
  refine HRP.out.mono ?_
  rintro e w5 ⟨A5, c5, rfl, hown, hb5⟩
  have hG1 := G1.out.lt
  have hlen : (repl R.cs i 1 [⟨clo, chi, z, nx R.ver, false⟩]).length * 56 ≤ reach := by
    have hrl := repl_len' (l := R.cs) (i := i) (n := 1) (new := [⟨clo, chi, z, nx R.ver, false⟩])
    unfold reach
    simp only [List.length_cons, List.length_nil] at hrl
    omega
  replace hown : w5.ownsRow (w3.alloc (Obj.cells #[.string clo, .string chi, .int .i64 z, .int .i64 cver, .bool false] 58)).heap.size 58 5 (.slice A5 (repl R.cs i 1 [⟨clo, chi, z, nx R.ver, false⟩]).length c5) (repl R.cs i 1 [⟨clo, chi, z, nx R.ver, false⟩]).length (flat recC (repl R.cs i 1 [⟨clo, chi, z, nx R.ver, false⟩])) := hown
  have hvt : Vr w.heap.size (w3.alloc (Obj.cells #[.string clo, .string chi, .int .i64 z, .int .i64 cver, .bool false] 58)).heap.size w5.heap.size w.heap.size w ⟨KA, kn, kc, A5, (repl R.cs i 1 [⟨clo, chi, z, nx R.ver, false⟩]).length, c5⟩ R.nx (repl R.cs i 1 [⟨clo, chi, z, nx R.ver, false⟩]) (setR w5 w.heap.size ⟨KA, kn, kc, A5, (repl R.cs i 1 [⟨clo, chi, z, nx R.ver, false⟩]).length, c5⟩ R.nx) := by
    have hge := own_ge hown
    refine ⟨(G0.out.step hb5).putR, own_keep hown fun g hg => heap_setR _ _ _ _ g (by have := hge g hg; omega), fun g hg => own_lt hown hg, ?_, rfl, hlen, below_setR (GE.out.step' hb5) (Nat.le_refl _) _ _, ⟨Nat.le_refl _, by omega, hb5.size, by rw [size_setR]; exact Nat.le_refl _⟩⟩
    refine ((H.out.ks.toB (GE.out.step' hb5)).lt).keep (by rw [size_setR]; exact Nat.le_refl _) fun b hF _ => ⟨⟨⟨.inl hF.1, hF.2⟩, fun e => by have := hge b e; omega⟩, heap_setR _ _ _ _ b (by omega)⟩
  have V0 := Lib.hid hvt
  have V1 : Hid (Blk (setR w5 w.heap.size ⟨KA, kn, kc, A5, (repl R.cs i 1 [⟨clo, chi, z, nx R.ver, false⟩]).length, c5⟩ R.nx) (w.heap.size + 1) 45 (rarr RA.zero Ro.zero)) := (heap_setR _ _ _ _ _ (by omega)).trans (G1.out.step hb5)
  obtain ⟨q0, q1, q2, q3, q4, q5, qz⟩ := blk_ro (G0.out.step hb5)
  simp only at q1 q5
  have HLO : Hid (w.heap.size + 1 < (w3.alloc (Obj.cells #[.string clo, .string chi, .int .i64 z, .int .i64 cver, .bool false] 58)).heap.size) := hG1
  have HLN := Lib.hid hlen
  obtain ⟨S, hS⟩ : ∃ S, S = R.nx := ⟨_, rfl⟩
  have HVT : Hid (giveR R key z = (⟨S.sp, S.ks, S.ha, S.ep, S.ver, touch (repl R.cs i 1 [⟨clo, chi, z, nx R.ver, false⟩]) csh S.ver⟩, 0)) := by rw [Hid, HVS.out, hS]; rfl
  have hsp : Hid (S.sp.size ≤ reach) := by rw [Hid, hS]; exact H.out.sp
  rw [← hS] at V0 V1 ⊢
  clear hown hb5 G0 G1 GE HRP hvt hlen hG1 hS HVS HV
  rw [show List.map (verC (nx R.ver)) [(⟨clo, chi, z, cver, false⟩ : Ch)] = [⟨clo, chi, z, nx R.ver, false⟩] from rfl]
  obtain ⟨Lc, hLc⟩ : ∃ Lc, Lc = repl R.cs i 1 [⟨clo, chi, z, nx R.ver, false⟩] := ⟨_, rfl⟩
  rw [← hLc] at V0 V1 HVT HLN ⊢
  clear hLc
  generalize (w3.alloc (Obj.cells #[.string clo, .string chi, .int .i64 z, .int .i64 cver, .bool false] 58)).heap.size = lo at *
  go_upto_region 12 with fail
  clear q0 q1 q2 q3 q4 q5 qz
  change (Code.region 12 _ _).wp _ _ _ (setR w5 w.heap.size ⟨KA, kn, kc, A5, Lc.length, c5⟩ S)
  generalize setR w5 w.heap.size ⟨KA, kn, kc, A5, Lc.length, c5⟩ S = w6 at *
  obtain ⟨ln5, hln5⟩ : ∃ ln5, ln5 = Lc.length := ⟨_, rfl⟩
  rw [← hln5] at V0 HLN
  have HL5 := Lib.hid hln5
  clear hln5
  have hln6 : ln5 ≤ 140737488355328 := by have := HLN.out; unfold reach at this; omega
  go_wp2_with fail
  go_loopw [11] (fun v wr => ∃ k : Nat, k ≤ ln5 ∧ v = .int .i64 k ∧ idxI (shB csh) Lc = idxFrom (shB csh) (Lc.drop k) k ∧ wr = w6) (fun v _ => ln5 - (intOf v).toNat)
  case atStart => exact ⟨0, Nat.zero_le _, rfl, rfl, rfl⟩
  case round =>
    obtain ⟨k, hk, rfl, ha, rfl⟩ := hrel
    have HA := Lib.hid ha
    clear ha
    obtain ⟨q0, q1, q2, q3, q4, q5, qz⟩ := blk_ro V0.out.b0
    simp only at q1 q5
    by_cases hlt : k < ln5
    · obtain ⟨d, hd⟩ : ∃ d, Lc[k]? = some d := ⟨_, List.getElem?_eq_getElem (by rw [← HL5.out]; exact hlt)⟩
      have HK := Lib.hid hd
      have HX := Lib.hid (idxFrom_at (p := shB csh) hd)
      clear hd
      obtain ⟨dlo, dhi, dsh, dver, dju⟩ := d
      obtain ⟨g, hgA, hgl, hgh, hgc⟩ := V0.out.get HK.out
      simp only at hgA
      subst hgA
      have c2 := (hgc 2 _ rfl).1
      obtain ⟨c3, z3⟩ := hgc 3 _ rfl
      clear hgc
      cases hq : (dsh == csh)
      · have HF : Hid (idxI (shB csh) Lc = idxFrom (shB csh) (Lc.drop (k + 1)) (k + 1)) := by rw [Hid, HA.out, HX.out]; unfold shB; rw [hq]; rfl
        go_wp2_with fail
        go_roundw
        case rel => exact ⟨k + 1, by omega, by go_num, HF.out, trivial⟩
        case measure => simp [intOf]; omega
      · have HF : Hid (idxI (shB csh) Lc = (k : Int)) := by rw [Hid, HA.out, HX.out]; unfold shB; rw [hq]; rfl
        have HVU : Hid (giveR R key z = (⟨S.sp, S.ks, S.ha, S.ep, S.ver, Lc.set k ⟨dlo, dhi, dsh, S.ver, dju⟩⟩, 0)) := by
          rw [Hid, HVT.out]
          unfold touch
          rw [HF.out, if_neg (by omega), Int.toNat_natCast, HK.out]
        have Z0 := Lib.hid (V0.out.put (g := g) rfl HK.out (j := 3) (v := .int .i64 S.ver) (c' := ⟨dlo, dhi, dsh, S.ver, dju⟩) (by omega) rfl)
        have Z1 := Lib.hid (V1.out.far (p := ⟨g, k * 5 + 3, none⟩) (by show w.heap.size + 1 ≠ g; have := HLO.out; omega) (.int .i64 S.ver))
        go_upto_region 17 with fail
        clear q0 q1 q2 q3 q4 q5 qz c2 c3 z3 V0 V1
        generalize wr.setCell ⟨g, k * 5 + 3, none⟩ (.int .i64 S.ver) = w8 at *
        obtain ⟨q0, q1, q2, q3, q4, q5, qz⟩ := blk_ro Z0.out.b0
        simp only at q1 q5
        obtain ⟨r0, r1, r2, r3, r4, r5, rz⟩ := blk_ro Z1.out
        have E := Lib.hid (change_end (R := ⟨S.sp, S.ks, S.ha, S.ep, S.ver, Lc.set k ⟨dlo, dhi, dsh, S.ver, dju⟩⟩) (a := ⟨KA, kn, kc, some ⟨g, 0, none⟩, ln5, c5⟩) rfl Z1.out (by omega) (by have := HLO.out; omega) hsp.out (Z0.out.ks.keep (Nat.le_refl _) fun b hF _ => ⟨hF.1.1, rfl⟩) Z0.out.own Z0.out.ln Z0.out.sz Z0.out.bel)
        clear Z0 Z1
        go_wp2_with fail
        clear q0 q1 q2 q3 q4 q5 qz r0 r1 r2 r3 r4 r5 rz
        refine bodyPost_ret (results_ro_err rfl _ (w.heap.size + 1) rfl _ rfl _ ⟨KA, kn, kc, some ⟨g, 0, none⟩, ln5, c5⟩ _ E.out.2) rfl ?_
        exact E.out.1.eq HVU.out
    · have HF : Hid (idxI (shB csh) Lc = -1) := by rw [Hid, HA.out]; exact idxFrom_end (by rw [← HL5.out]; omega)
      have HVU : Hid (giveR R key z = (⟨S.sp, S.ks, S.ha, S.ep, S.ver, Lc⟩, 0)) := by
        rw [Hid, HVT.out]
        unfold touch
        rw [HF.out]
        rfl
      obtain ⟨r0, r1, r2, r3, r4, r5, rz⟩ := blk_ro V1.out
      have E := Lib.hid (change_end (R := ⟨S.sp, S.ks, S.ha, S.ep, S.ver, Lc⟩) (a := ⟨KA, kn, kc, A5, ln5, c5⟩) rfl V1.out (by omega) (by have := HLO.out; omega) hsp.out (V0.out.ks.keep (Nat.le_refl _) fun b hF _ => ⟨hF.1.1, rfl⟩) V0.out.own V0.out.ln V0.out.sz V0.out.bel)
      clear V0 V1
      go_wp2_with fail
      clear q0 q1 q2 q3 q4 q5 qz r0 r1 r2 r3 r4 r5 rz
      refine bodyPost_ret (results_ro_err rfl _ (w.heap.size + 1) rfl _ rfl _ ⟨KA, kn, kc, A5, ln5, c5⟩ _ E.out.2) rfl ?_
      exact E.out.1.eq HVU.out

end Go.Proofs.YtblepmmibhphhaaGreatDoor


/- The contracts of the router's Check, Owns, Route and of the reference's. -/
namespace Go.Proofs.YtblepmmibhphhaaGreatDoor
open Go.RowKit

/-- the version of a shard, as the reference finds it -/
def verQ (s : Int) (b : Int) (c : Ch) : Int := if c.sh = s ∧ b < c.ver then c.ver else b
def rverR (s : Int) (l : List Ch) : Int := l.foldl (verQ s) 0
theorem verQ_fold (s : Int) : ∀ (l : List Ch) (b : Int), b ≤ l.foldl (verQ s) b ∧ (∀ c ∈ l, c.sh = s → c.ver ≤ l.foldl (verQ s) b) ∧ (l.foldl (verQ s) b = b ∨ ∃ c ∈ l, c.sh = s ∧ l.foldl (verQ s) b = c.ver)
  | [], b => ⟨Int.le_refl _, fun c hc => by simp at hc, .inl rfl⟩
  | x :: r, b => by
    obtain ⟨h1, h2, h3⟩ := verQ_fold s r (verQ s b x)
    rw [List.foldl_cons]
    by_cases hx : x.sh = s ∧ b < x.ver
    · have e : verQ s b x = x.ver := if_pos hx
      rw [e] at h1 h2 h3 ⊢
      refine ⟨by omega, fun c hc hs => ?_, ?_⟩
      · rcases List.mem_cons.1 hc with rfl | hc
        · exact h1
        · exact h2 c hc hs
      · rcases h3 with h3 | ⟨c, hc, hs, hv⟩
        · exact .inr ⟨x, by simp, hx.1, h3⟩
        · exact .inr ⟨c, by simp [hc], hs, hv⟩
    · have e : verQ s b x = b := if_neg hx
      rw [e] at h1 h2 h3 ⊢
      refine ⟨h1, fun c hc hs => ?_, ?_⟩
      · rcases List.mem_cons.1 hc with rfl | hc
        · have : ¬ b < c.ver := fun h => hx ⟨hs, h⟩
          omega
        · exact h2 c hc hs
      · rcases h3 with h3 | ⟨c, hc, hs, hv⟩
        · exact .inl h3
        · exact .inr ⟨c, by simp [hc], hs, hv⟩
theorem rver_eq {s : Int} {l : List Ch} (h : ∀ c ∈ l, 1 ≤ c.ver) : rverR s l = verR s l := by
  obtain ⟨_, h1, h2⟩ := verQ_fold s l 0
  obtain ⟨h3, h4⟩ := verR_ways s l
  unfold rverR
  rcases h2 with h2 | ⟨c, hc, hs, hv⟩
  · rcases h4 with h4 | ⟨d, hd, hs', hv'⟩
    · rw [h2, h4]
    · have := h1 d hd hs'
      have := h d hd
      omega
  · have k1 := h3 c hc hs
    have k2 := h c hc
    rcases h4 with h4 | ⟨d, hd, hs', hv'⟩
    · omega
    · have := h1 d hd hs'
      omega

set_option maxRecDepth 100000 in
set_option maxHeartbeats 800000 in
theorem rversion_any (R : Ro) (a : RA) (s : Int) (w : World) (h : RR w a R) :
    Calls Tryz.prog 31 #[rval a R, .int .i64 s] w fun e w' => e = .returned (.int .i64 (rverR s R.cs)) ∧ Below w.heap.size w w' := by
  obtain ⟨KA, kn, kc, CA, cn, cc⟩ := a
  have H := Lib.hid h
  have hn : Hid (cn = R.cs.length) := h.cs.ln
  have hcz : cn * 56 ≤ reach := h.cs.sz
  have hkn : cn ≤ 140737488355328 := by unfold reach at hcz; omega
  clear h hcz
  have B0 : Hid (Blk (w.alloc (Obj.cells (rarr ⟨KA, kn, kc, CA, cn, cc⟩ R) 45)) w.heap.size 45 (rarr ⟨KA, kn, kc, CA, cn, cc⟩ R)) := Blk.new_at rfl
  have BE : Hid (Below w.heap.size w (w.alloc (Obj.cells (rarr ⟨KA, kn, kc, CA, cn, cc⟩ R) 45))) := (Below.refl _ _).alloc (Nat.le_refl _) _
  go_enter Tryz.func31, Tryz.ntmps31
  go_upto_region 3 with fail
  change Code.wp _ _ _ _ (w.alloc (Obj.cells (rarr ⟨KA, kn, kc, CA, cn, cc⟩ R) 45))
  generalize w.alloc (Obj.cells (rarr ⟨KA, kn, kc, CA, cn, cc⟩ R) 45) = wa at *
  obtain ⟨q0, q1, q2, q3, q4, q5, qz⟩ := blk_ro B0.out
  simp only at q1 q5
  clear q0 q1 q2 q3 q4
  go_loopw [5, 6] (fun v5 v6 wr => ∃ (i : Nat) (best : Int), i ≤ cn ∧ v6 = .int .i64 i ∧ v5 = .int .i64 best ∧ rverR s R.cs = (R.cs.drop i).foldl (verQ s) best ∧ wr = wa) (fun _ v6 _ => cn - (intOf v6).toNat)
  case atStart => exact ⟨0, 0, Nat.zero_le _, rfl, rfl, rfl, rfl⟩
  case round =>
    obtain ⟨i, best, hi, rfl, rfl, ha, rfl⟩ := hrel
    have HA := Lib.hid ha
    clear ha
    by_cases hlt : i < cn
    · obtain ⟨b, off, x, hA, hb, hx, e0, e1, e2, e3, e4⟩ := H.out.cs.sr.at5 hlt
      simp only at hA
      subst hA
      have HX : Hid ((R.cs.drop i).foldl (verQ s) best = (R.cs.drop (i + 1)).foldl (verQ s) (verQ s best x)) := by rw [Hid, drop_of hx]; rfl
      have g2 := (BE.out.cell (p := ⟨b, off + i * 5 + 2, none⟩) hb).trans e2
      have g3 := (BE.out.cell (p := ⟨b, off + i * 5 + 3, none⟩) hb).trans e3
      obtain ⟨xlo, xhi, xsh, xver, xju⟩ := x
      simp only at g2 g3
      clear hx e0 e1 e2 e3 e4
      by_cases hs : xsh = s
      · have hsb : (xsh == s) = true := by simpa using hs
        by_cases hv : best < xver
        · have HN : Hid (rverR s R.cs = (R.cs.drop (i + 1)).foldl (verQ s) xver) := by rw [Hid, HA.out, HX.out, verQ, if_pos ⟨hs, hv⟩]
          clear hs
          go_wp2_with fail
          go_roundw
          case rel => exact ⟨i + 1, xver, by omega, by go_num, rfl, HN.out, trivial⟩
          case measure => simp [intOf]; omega
        · have HN : Hid (rverR s R.cs = (R.cs.drop (i + 1)).foldl (verQ s) best) := by rw [Hid, HA.out, HX.out, verQ, if_neg fun h => hv h.2]
          clear hs
          go_wp2_with fail
          go_roundw
          case rel => exact ⟨i + 1, best, by omega, by go_num, rfl, HN.out, trivial⟩
          case measure => simp [intOf]; omega
      · have hsb : (xsh == s) = false := by simpa using hs
        have HN : Hid (rverR s R.cs = (R.cs.drop (i + 1)).foldl (verQ s) best) := by rw [Hid, HA.out, HX.out, verQ, if_neg fun h => hs h.1]
        clear hs
        go_wp2_with fail
        go_roundw
        case rel => exact ⟨i + 1, best, by omega, by go_num, rfl, HN.out, trivial⟩
        case measure => simp [intOf]; omega
    · have HF : Hid (rverR s R.cs = best) := by rw [Hid, HA.out, List.drop_of_length_le (by have := hn.out; omega)]; rfl
      go_wp2_with fail
      go_ret
      exact ⟨by rw [HF.out]; rfl, BE.out⟩

def chkE (R : Ro) (v : Int) (ep ver : Int) : Int := if ep = R.ep ∧ ver = v then 0 else 27

set_option maxRecDepth 100000 in
set_option maxHeartbeats 800000 in
theorem check_any (R : Ro) (a : RA) (s ep ver : Int) (w : World) (h : RR w a R) :
    Calls Tryz.prog 29 #[rval a R, .int .i64 s, .int .i64 ep, .int .i64 ver] w fun e w' => e = .returned (.int .i64 (chkE R (verR s R.cs) ep ver)) ∧ Below w.heap.size w w' := by
  have HV := Lib.hid fun (wr : World) (hb : Below w.heap.size w wr) => version_any R a s wr (h.step hb)
  obtain ⟨KA, kn, kc, CA, cn, cc⟩ := a
  clear h
  have B0 : Hid (Blk (w.alloc (Obj.cells (rarr ⟨KA, kn, kc, CA, cn, cc⟩ R) 45)) w.heap.size 45 (rarr ⟨KA, kn, kc, CA, cn, cc⟩ R)) := Blk.new_at rfl
  have BE : Hid (Below w.heap.size w (w.alloc (Obj.cells (rarr ⟨KA, kn, kc, CA, cn, cc⟩ R) 45))) := (Below.refl _ _).alloc (Nat.le_refl _) _
  obtain ⟨V, hV⟩ : ∃ V, V = verR s R.cs := ⟨_, rfl⟩
  rw [← hV] at HV ⊢
  clear hV
  go_enter Tryz.func29, Tryz.ntmps29
  go_upto_region 1 with fail
  change Code.wp _ _ _ _ (w.alloc (Obj.cells (rarr ⟨KA, kn, kc, CA, cn, cc⟩ R) 45))
  generalize w.alloc (Obj.cells (rarr ⟨KA, kn, kc, CA, cn, cc⟩ R) 45) = wa at *
  obtain ⟨q0, q1, q2, q3, q4, q5, qz⟩ := blk_ro B0.out
  simp only at q1 q5
  by_cases h1 : ep = R.ep
  · have h1b : (ep != R.ep) = false := by simpa using h1
    by_cases h2 : ver = V
    · have HE : Hid (chkE R V ep ver = 0) := if_pos ⟨h1, h2⟩
      have h2b : (ver != V) = false := by simpa using h2
      clear h1 h2
      go_wp2_with fail
      refine (HV.out wa BE.out).mono ?_
      rintro e w1 ⟨rfl, hb⟩
      have CE := Lib.hid (BE.out.step' hb)
      clear hb BE B0 HV q0 q1 q2 q3 q4 q5 qz
      go_wp2_with fail
      go_ret
      exact ⟨by rw [HE.out]; rfl, CE.out⟩
    · have HE : Hid (chkE R V ep ver = 27) := if_neg fun h => h2 h.2
      have h2b : (ver != V) = true := by simpa using h2
      clear h1 h2
      go_wp2_with fail
      refine (HV.out wa BE.out).mono ?_
      rintro e w1 ⟨rfl, hb⟩
      have CE := Lib.hid (BE.out.step' hb)
      clear hb BE B0 HV q0 q1 q2 q3 q4 q5 qz
      go_wp2_with fail
      go_ret
      exact ⟨by rw [HE.out]; rfl, CE.out⟩
  · have HE : Hid (chkE R V ep ver = 27) := if_neg fun h => h1 h.1
    have h1b : (ep != R.ep) = true := by simpa using h1
    clear h1
    go_wp2_with fail
    go_ret
    exact ⟨by rw [HE.out]; rfl, BE.out⟩

set_option maxRecDepth 100000 in
set_option maxHeartbeats 800000 in
theorem rcheck_any (R : Ro) (a : RA) (s ep ver : Int) (w : World) (h : RR w a R) :
    Calls Tryz.prog 30 #[rval a R, .int .i64 s, .int .i64 ep, .int .i64 ver] w fun e w' => e = .returned (.int .i64 (chkE R (rverR s R.cs) ep ver)) ∧ Below w.heap.size w w' := by
  have HV := Lib.hid fun (wr : World) (hb : Below w.heap.size w wr) => rversion_any R a s wr (h.step hb)
  obtain ⟨KA, kn, kc, CA, cn, cc⟩ := a
  clear h
  have B0 : Hid (Blk (w.alloc (Obj.cells (rarr ⟨KA, kn, kc, CA, cn, cc⟩ R) 45)) w.heap.size 45 (rarr ⟨KA, kn, kc, CA, cn, cc⟩ R)) := Blk.new_at rfl
  have BE : Hid (Below w.heap.size w (w.alloc (Obj.cells (rarr ⟨KA, kn, kc, CA, cn, cc⟩ R) 45))) := (Below.refl _ _).alloc (Nat.le_refl _) _
  obtain ⟨V, hV⟩ : ∃ V, V = rverR s R.cs := ⟨_, rfl⟩
  rw [← hV] at HV ⊢
  clear hV
  go_enter Tryz.func30, Tryz.ntmps30
  go_upto_region 1 with fail
  change Code.wp _ _ _ _ (w.alloc (Obj.cells (rarr ⟨KA, kn, kc, CA, cn, cc⟩ R) 45))
  generalize w.alloc (Obj.cells (rarr ⟨KA, kn, kc, CA, cn, cc⟩ R) 45) = wa at *
  obtain ⟨q0, q1, q2, q3, q4, q5, qz⟩ := blk_ro B0.out
  simp only at q1 q5
  by_cases h1 : ep = R.ep
  · have h1b : (ep != R.ep) = false := by simpa using h1
    by_cases h2 : ver = V
    · have HE : Hid (chkE R V ep ver = 0) := if_pos ⟨h1, h2⟩
      have h2b : (ver != V) = false := by simpa using h2
      clear h1 h2
      go_wp2_with fail
      refine (HV.out wa BE.out).mono ?_
      rintro e w1 ⟨rfl, hb⟩
      have CE := Lib.hid (BE.out.step' hb)
      clear hb BE B0 HV q0 q1 q2 q3 q4 q5 qz
      go_wp2_with fail
      go_ret
      exact ⟨by rw [HE.out]; rfl, CE.out⟩
    · have HE : Hid (chkE R V ep ver = 27) := if_neg fun h => h2 h.2
      have h2b : (ver != V) = true := by simpa using h2
      clear h1 h2
      go_wp2_with fail
      refine (HV.out wa BE.out).mono ?_
      rintro e w1 ⟨rfl, hb⟩
      have CE := Lib.hid (BE.out.step' hb)
      clear hb BE B0 HV q0 q1 q2 q3 q4 q5 qz
      go_wp2_with fail
      go_ret
      exact ⟨by rw [HE.out]; rfl, CE.out⟩
  · have HE : Hid (chkE R V ep ver = 27) := if_neg fun h => h1 h.1
    have h1b : (ep != R.ep) = true := by simpa using h1
    clear h1
    go_wp2_with fail
    go_ret
    exact ⟨by rw [HE.out]; rfl, BE.out⟩


/-- the shard of the chunk of a key -/
def ownC (R : Ro) (key : ByteArray) : Int := if idxI (inB key) R.cs < 0 then -1 else match R.cs[(idxI (inB key) R.cs).toNat]? with
  | none => -1
  | some c => c.sh
theorem own_ways (R : Ro) (key : ByteArray) : (idxI (inB key) R.cs = -1 ∧ ownC R key = -1) ∨ ∃ (i : Nat) (c : Ch), idxI (inB key) R.cs = (i : Nat) ∧ R.cs[i]? = some c ∧ inB key c = true ∧ ownC R key = c.sh := by
  rcases idxI_range (inB key) R.cs with ⟨h1, _⟩ | ⟨i, c, h1, h2, h3, _⟩
  · exact .inl ⟨h1, by unfold ownC; rw [h1]; rfl⟩
  · refine .inr ⟨i, c, h1, h2, h3, ?_⟩
    unfold ownC
    rw [h1, if_neg (by omega), Int.toNat_natCast, h2]
def ownsB (R : Ro) (s : Int) (key : ByteArray) : Bool := decide (0 ≤ idxI (inB key) R.cs) && (ownC R key == s)
def rownsB (R : Ro) (s : Int) (key : ByteArray) : Bool := decide (0 ≤ s) && (ownC R key == s)

set_option maxRecDepth 100000 in
set_option maxHeartbeats 800000 in
theorem owns_any (R : Ro) (a : RA) (s : Int) (key : ByteArray) (w : World) (h : RR w a R) :
    Calls Tryz.prog 24 #[rval a R, .int .i64 s, .string key] w fun e w' => e = .returned (.bool (ownsB R s key)) ∧ Below w.heap.size w w' := by
  have HV := Lib.hid fun (wr : World) (hb : Below w.heap.size w wr) => cfind_any R a key wr (h.step hb)
  obtain ⟨KA, kn, kc, CA, cn, cc⟩ := a
  have H := Lib.hid h
  have hn : Hid (cn = R.cs.length) := h.cs.ln
  have hcz : cn * 56 ≤ reach := h.cs.sz
  have hkn : cn ≤ 140737488355328 := by unfold reach at hcz; omega
  clear h hcz
  have B0 : Hid (Blk (w.alloc (Obj.cells (rarr ⟨KA, kn, kc, CA, cn, cc⟩ R) 45)) w.heap.size 45 (rarr ⟨KA, kn, kc, CA, cn, cc⟩ R)) := Blk.new_at rfl
  have BE : Hid (Below w.heap.size w (w.alloc (Obj.cells (rarr ⟨KA, kn, kc, CA, cn, cc⟩ R) 45))) := (Below.refl _ _).alloc (Nat.le_refl _) _
  go_enter Tryz.func24, Tryz.ntmps24
  go_upto_region 1 with fail
  change Code.wp _ _ _ _ (w.alloc (Obj.cells (rarr ⟨KA, kn, kc, CA, cn, cc⟩ R) 45))
  generalize w.alloc (Obj.cells (rarr ⟨KA, kn, kc, CA, cn, cc⟩ R) 45) = wa at *
  obtain ⟨q0, q1, q2, q3, q4, q5, qz⟩ := blk_ro B0.out
  simp only at q1 q5
  rcases own_ways R key with ⟨h1, h2⟩ | ⟨i, c, h1, hi, _, h2⟩
  · have HF : Hid (ownsB R s key = false) := by unfold Hid ownsB; rw [h1]; rfl
    rw [h1] at HV
    clear h1 h2
    go_wp2_with fail
    refine (HV.out wa BE.out).mono ?_
    rintro e w1 ⟨rfl, hb⟩
    have CE := Lib.hid (BE.out.step' hb)
    clear hb BE B0 HV q0 q1 q2 q3 q4 q5 qz
    go_wp2_with fail
    go_ret
    exact ⟨by rw [HF.out]; rfl, CE.out⟩
  · have HF : Hid (ownsB R s key = (c.sh == s)) := by unfold Hid ownsB; rw [h1, h2, decide_eq_true (by omega)]; rfl
    rw [h1] at HV
    clear h1 h2
    have hlt : i < cn := by have := (List.getElem?_eq_some_iff.1 hi).1; have := hn.out; omega
    go_wp2_with fail
    refine (HV.out wa BE.out).mono ?_
    rintro e w1 ⟨rfl, hb⟩
    have CE := Lib.hid (BE.out.step' hb)
    have C0 := Lib.hid (B0.out.step hb)
    clear hb BE B0 HV q0 q1 q2 q3 q4 q5 qz
    obtain ⟨q0, q1, q2, q3, q4, q5, qz⟩ := blk_ro C0.out
    simp only at q1 q5
    obtain ⟨b, off, x, hA, hb, hx, e0, e1, e2, e3, e4⟩ := H.out.cs.sr.at5 hlt
    simp only at hA
    subst hA
    obtain rfl : x = c := Option.some.inj (hx.symm.trans hi)
    have g2 := (CE.out.cell (p := ⟨b, off + i * 5 + 2, none⟩) hb).trans e2
    have i0' : (0 : Int) ≤ (i : Int) := by omega
    have i1' : (i : Int) < (cn : Int) := by omega
    clear hx hi e0 e1 e2 e3 e4 C0
    go_wp2_with fail
    go_ret
    exact ⟨by rw [HF.out]; rfl, CE.out⟩

set_option maxRecDepth 100000 in
set_option maxHeartbeats 800000 in
theorem rowner_any (R : Ro) (a : RA) (key : ByteArray) (w : World) (h : RR w a R) :
    Calls Tryz.prog 59 #[rval a R, .string key] w fun e w' => e = .returned (.int .i64 (ownC R key)) ∧ Below w.heap.size w w' := by
  have HV := Lib.hid fun (wr : World) (hb : Below w.heap.size w wr) => rfind_any R a key wr (h.step hb)
  obtain ⟨KA, kn, kc, CA, cn, cc⟩ := a
  have H := Lib.hid h
  have hn : Hid (cn = R.cs.length) := h.cs.ln
  have hcz : cn * 56 ≤ reach := h.cs.sz
  have hkn : cn ≤ 140737488355328 := by unfold reach at hcz; omega
  clear h hcz
  have B0 : Hid (Blk (w.alloc (Obj.cells (rarr ⟨KA, kn, kc, CA, cn, cc⟩ R) 45)) w.heap.size 45 (rarr ⟨KA, kn, kc, CA, cn, cc⟩ R)) := Blk.new_at rfl
  have BE : Hid (Below w.heap.size w (w.alloc (Obj.cells (rarr ⟨KA, kn, kc, CA, cn, cc⟩ R) 45))) := (Below.refl _ _).alloc (Nat.le_refl _) _
  go_enter Tryz.func59, Tryz.ntmps59
  go_upto_region 1 with fail
  change Code.wp _ _ _ _ (w.alloc (Obj.cells (rarr ⟨KA, kn, kc, CA, cn, cc⟩ R) 45))
  generalize w.alloc (Obj.cells (rarr ⟨KA, kn, kc, CA, cn, cc⟩ R) 45) = wa at *
  obtain ⟨q0, q1, q2, q3, q4, q5, qz⟩ := blk_ro B0.out
  simp only at q1 q5
  rcases own_ways R key with ⟨h1, h2⟩ | ⟨i, c, h1, hi, _, h2⟩
  · have HF := Lib.hid h2
    rw [h1] at HV
    clear h1 h2
    go_wp2_with fail
    refine (HV.out wa BE.out).mono ?_
    rintro e w1 ⟨rfl, hb⟩
    have CE := Lib.hid (BE.out.step' hb)
    clear hb BE B0 HV q0 q1 q2 q3 q4 q5 qz
    go_wp2_with fail
    go_ret
    exact ⟨by rw [HF.out]; rfl, CE.out⟩
  · have HF := Lib.hid h2
    rw [h1] at HV
    clear h1 h2
    have hlt : i < cn := by have := (List.getElem?_eq_some_iff.1 hi).1; have := hn.out; omega
    go_wp2_with fail
    refine (HV.out wa BE.out).mono ?_
    rintro e w1 ⟨rfl, hb⟩
    have CE := Lib.hid (BE.out.step' hb)
    have C0 := Lib.hid (B0.out.step hb)
    clear hb BE B0 HV q0 q1 q2 q3 q4 q5 qz
    obtain ⟨q0, q1, q2, q3, q4, q5, qz⟩ := blk_ro C0.out
    simp only at q1 q5
    obtain ⟨b, off, x, hA, hb, hx, e0, e1, e2, e3, e4⟩ := H.out.cs.sr.at5 hlt
    simp only at hA
    subst hA
    obtain rfl : x = c := Option.some.inj (hx.symm.trans hi)
    have g2 := (CE.out.cell (p := ⟨b, off + i * 5 + 2, none⟩) hb).trans e2
    have i0' : (0 : Int) ≤ (i : Int) := by omega
    have i1' : (i : Int) < (cn : Int) := by omega
    clear hx hi e0 e1 e2 e3 e4 C0
    go_wp2_with fail
    go_ret
    exact ⟨by rw [HF.out]; rfl, CE.out⟩

set_option maxRecDepth 100000 in
set_option maxHeartbeats 800000 in
theorem rowns_any (R : Ro) (a : RA) (s : Int) (key : ByteArray) (w : World) (h : RR w a R) :
    Calls Tryz.prog 25 #[rval a R, .int .i64 s, .string key] w fun e w' => e = .returned (.bool (rownsB R s key)) ∧ Below w.heap.size w w' := by
  have HV := Lib.hid fun (wr : World) (hb : Below w.heap.size w wr) => rowner_any R a key wr (h.step hb)
  obtain ⟨KA, kn, kc, CA, cn, cc⟩ := a
  clear h
  have B0 : Hid (Blk (w.alloc (Obj.cells (rarr ⟨KA, kn, kc, CA, cn, cc⟩ R) 45)) w.heap.size 45 (rarr ⟨KA, kn, kc, CA, cn, cc⟩ R)) := Blk.new_at rfl
  have BE : Hid (Below w.heap.size w (w.alloc (Obj.cells (rarr ⟨KA, kn, kc, CA, cn, cc⟩ R) 45))) := (Below.refl _ _).alloc (Nat.le_refl _) _
  obtain ⟨V, hV⟩ : ∃ V, V = ownC R key := ⟨_, rfl⟩
  rw [← hV] at HV
  unfold rownsB
  rw [← hV]
  clear hV
  go_enter Tryz.func25, Tryz.ntmps25
  go_upto_region 1 with fail
  change Code.wp _ _ _ _ (w.alloc (Obj.cells (rarr ⟨KA, kn, kc, CA, cn, cc⟩ R) 45))
  generalize w.alloc (Obj.cells (rarr ⟨KA, kn, kc, CA, cn, cc⟩ R) 45) = wa at *
  obtain ⟨q0, q1, q2, q3, q4, q5, qz⟩ := blk_ro B0.out
  simp only at q1 q5
  by_cases h0 : 0 ≤ s
  · have h0b : decide (0 ≤ s) = true := decide_eq_true h0
    have HF := Lib.hid h0b
    go_wp2_with fail
    refine (HV.out wa BE.out).mono ?_
    rintro e w1 ⟨rfl, hb⟩
    have CE := Lib.hid (BE.out.step' hb)
    clear hb BE B0 HV q0 q1 q2 q3 q4 q5 qz
    go_wp2_with fail
    go_ret
    exact ⟨by rw [HF.out]; rfl, CE.out⟩
  · have HF : Hid (decide (0 ≤ s) = false) := decide_eq_false h0
    go_wp2_with fail
    go_ret
    exact ⟨by rw [HF.out]; rfl, BE.out⟩

end Go.Proofs.YtblepmmibhphhaaGreatDoor

