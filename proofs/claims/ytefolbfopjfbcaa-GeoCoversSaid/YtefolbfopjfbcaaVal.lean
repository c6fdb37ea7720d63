/- Values of the document database as trees, and what it means that five cells read as such a tree. -/
import Derived.Test.YtefolbfopjfbcaaKit2
namespace Go.Proofs.Ytefolbfopjfbcaa
open Go.RowKit

mutual
inductive Val where
  | mk (k n : Int) (t : ByteArray) (l : List Val) (d : List Fld)
inductive Fld where
  | mk (s : ByteArray) (v : Val)
end
def Val.k : Val → Int | .mk k _ _ _ _ => k
def Val.n : Val → Int | .mk _ n _ _ _ => n
def Val.t : Val → ByteArray | .mk _ _ t _ _ => t
def Val.l : Val → List Val | .mk _ _ _ l _ => l
def Val.d : Val → List Fld | .mk _ _ _ _ d => d
def Fld.s : Fld → ByteArray | .mk s _ => s
def Fld.v : Fld → Val | .mk _ v => v
def Val.zero : Val := .mk 0 0 ByteArray.empty [] []

/-- induction over a value and its parts -/
theorem Val.ind {p : Val → Prop} (h : ∀ k n t l d, (∀ v ∈ l, p v) → (∀ f ∈ d, p f.v) → p (.mk k n t l d)) : ∀ v, p v := by
  intro v
  refine Val.rec (motive_1 := p) (motive_2 := fun f => p f.v) (motive_3 := fun l => ∀ v ∈ l, p v) (motive_4 := fun d => ∀ f ∈ d, p f.v) ?_ ?_ ?_ ?_ ?_ ?_ v
  · intro k n t l d hl hd
    exact h k n t l d hl hd
  · intro s v hv
    exact hv
  · intro v hv; simp at hv
  · intro x r hx hr v hv
    rcases List.mem_cons.1 hv with rfl | hv
    · exact hx
    · exact hr v hv
  · intro v hv; simp at hv
  · intro x r hx hr v hv
    rcases List.mem_cons.1 hv with rfl | hv
    · exact hx
    · exact hr v hv

/-- the form's reach for what comes in -/
def reach0 : Nat := 140737488351232
/-- what a slice may grow to -/
def reach : Nat := 140737488355328
theorem le_reach : reach0 ≤ reach := by decide

/-- no cell of the block is frozen -/
def Unf (w : World) (b : Nat) : Prop := ∀ i, w.frozen? ⟨b, i, none⟩ = false
/-- the block belongs to the footprint F; a footprint without block 0 has no frozen blocks -/
def Ft (F : Nat → Prop) (w : World) (b : Nat) : Prop := F b ∧ (¬ F 0 → Unf w b)
theorem Ft.top {w : World} {b : Nat} : Ft (fun _ => True) w b := ⟨trivial, fun h => absurd trivial h⟩
theorem Ft.keepG {F G : Nat → Prop} {w w' : World} {b : Nat} (h : Ft F w b) (hb : b < w.heap.size) (hk : ∀ b, F b → b < w.heap.size → G b ∧ w'.heap[b]? = w.heap[b]?) : Ft G w' b :=
  ⟨(hk b h.1 hb).1, fun hG i => (World.frozen?_of_block (w := w) (a := ⟨b, i, none⟩) (hk b h.1 hb).2).trans (h.2 (fun h0 => hG (hk 0 h0 (by omega)).1) i)⟩
mutual
/-- the five cells c read as a value; every block on the way fulfils F -/
def RV (F : Nat → Prop) (w : World) : VC → Val → Prop
  | c, .mk k n t l d => c.k = k ∧ c.n = n ∧ c.t = t ∧ t.size ≤ reach ∧
    c.ln = l.length ∧ c.ln ≤ c.lc ∧ c.ln * 80 ≤ reach ∧ (0 < c.ln → ∃ b off, c.LA = some ⟨b, off, none⟩ ∧ Ft F w b ∧ RLs F w b off l) ∧
    c.dn = d.length ∧ c.dn ≤ c.dc ∧ c.dn * 96 ≤ reach ∧ (0 < c.dn → ∃ b off, c.DA = some ⟨b, off, none⟩ ∧ Ft F w b ∧ RDs F w b off d)
def RLs (F : Nat → Prop) (w : World) : Nat → Nat → List Val → Prop
  | _, _, [] => True
  | b, off, x :: r => (∃ c, VAt w b off c ∧ RV F w c x) ∧ RLs F w b (off + 5) r
def RDs (F : Nat → Prop) (w : World) : Nat → Nat → List Fld → Prop
  | _, _, [] => True
  | b, off, f :: r => RF F w b off f ∧ RDs F w b (off + 6) r
def RF (F : Nat → Prop) (w : World) : Nat → Nat → Fld → Prop
  | b, off, .mk s x => w.cell? ⟨b, off, none⟩ = some (.string s) ∧ s.size ≤ reach ∧ ∃ c, VAt w b (off + 1) c ∧ RV F w c x
end

section
variable {F G : Nat → Prop} {w w' : World}

theorem RLs.at {l : List Val} : ∀ {b off : Nat}, RLs F w b off l → ∀ (i : Nat) (x : Val), l[i]? = some x → ∃ c, VAt w b (off + i * 5) c ∧ RV F w c x := by
  induction l with
  | nil => intro b off _ i x hi; simp at hi
  | cons y r ih =>
    intro b off h i x hi
    simp only [RLs] at h
    cases i with
    | zero =>
      simp at hi
      subst hi
      simpa using h.1
    | succ i =>
      obtain ⟨c, hc, hx⟩ := ih h.2 i x (by simpa using hi)
      exact ⟨c, by rw [show off + (i + 1) * 5 = off + 5 + i * 5 from by omega]; exact hc, hx⟩
theorem RLs.mk {l : List Val} : ∀ {b off : Nat}, (∀ (i : Nat) (x : Val), l[i]? = some x → ∃ c, VAt w b (off + i * 5) c ∧ RV F w c x) → RLs F w b off l := by
  induction l with
  | nil => intro b off _; simp only [RLs]
  | cons y r ih =>
    intro b off h
    simp only [RLs]
    refine ⟨by simpa using h 0 y rfl, ih fun i x hi => ?_⟩
    obtain ⟨c, hc, hx⟩ := h (i + 1) x (by simpa using hi)
    exact ⟨c, by rw [show off + 5 + i * 5 = off + (i + 1) * 5 from by omega]; exact hc, hx⟩
theorem RF.parts {b off : Nat} {f : Fld} (h : RF F w b off f) : w.cell? ⟨b, off, none⟩ = some (.string f.s) ∧ f.s.size ≤ reach ∧ ∃ c, VAt w b (off + 1) c ∧ RV F w c f.v := by
  cases f
  simp only [RF] at h
  exact h
theorem RF.mk {b off : Nat} {f : Fld} (h1 : w.cell? ⟨b, off, none⟩ = some (.string f.s)) (h2 : f.s.size ≤ reach) (h3 : ∃ c, VAt w b (off + 1) c ∧ RV F w c f.v) : RF F w b off f := by
  cases f
  simp only [RF]
  exact ⟨h1, h2, h3⟩
theorem RDs.at {l : List Fld} : ∀ {b off : Nat}, RDs F w b off l → ∀ (i : Nat) (x : Fld), l[i]? = some x → RF F w b (off + i * 6) x := by
  induction l with
  | nil => intro b off _ i x hi; simp at hi
  | cons y r ih =>
    intro b off h i x hi
    simp only [RDs] at h
    cases i with
    | zero =>
      simp at hi
      subst hi
      simpa using h.1
    | succ i =>
      have := ih h.2 i x (by simpa using hi)
      rw [show off + (i + 1) * 6 = off + 6 + i * 6 from by omega]
      exact this
theorem RDs.mk {l : List Fld} : ∀ {b off : Nat}, (∀ (i : Nat) (x : Fld), l[i]? = some x → RF F w b (off + i * 6) x) → RDs F w b off l := by
  induction l with
  | nil => intro b off _; simp only [RDs]
  | cons y r ih =>
    intro b off h
    simp only [RDs]
    refine ⟨by simpa using h 0 y rfl, ih fun i x hi => ?_⟩
    have := h (i + 1) x (by simpa using hi)
    rw [show off + 6 + i * 6 = off + (i + 1) * 6 from by omega]
    exact this

/-- what it is that five cells read as a value, element by element -/
structure RVs (F : Nat → Prop) (w : World) (c : VC) (x : Val) : Prop where
  k : c.k = x.k
  n : c.n = x.n
  t : c.t = x.t
  tsz : x.t.size ≤ reach
  ln : c.ln = x.l.length
  lc : c.ln ≤ c.lc
  lsz : c.ln * 80 ≤ reach
  la : 0 < c.ln → ∃ b off, c.LA = some ⟨b, off, none⟩ ∧ Ft F w b ∧ ∀ (i : Nat) (y : Val), x.l[i]? = some y → ∃ e, VAt w b (off + i * 5) e ∧ RV F w e y
  dn : c.dn = x.d.length
  dc : c.dn ≤ c.dc
  dsz : c.dn * 96 ≤ reach
  da : 0 < c.dn → ∃ b off, c.DA = some ⟨b, off, none⟩ ∧ Ft F w b ∧ ∀ (i : Nat) (f : Fld), x.d[i]? = some f → w.cell? ⟨b, off + i * 6, none⟩ = some (.string f.s) ∧ f.s.size ≤ reach ∧ ∃ e, VAt w b (off + i * 6 + 1) e ∧ RV F w e f.v
theorem RV.open {c : VC} {x : Val} (h : RV F w c x) : RVs F w c x := by
  cases x with
  | mk k n t l d =>
    simp only [RV] at h
    obtain ⟨h1, h2, h3, h4, h5, h6, h7, h8, h9, h10, h11, h12⟩ := h
    refine ⟨h1, h2, h3, h4, h5, h6, h7, fun h => ?_, h9, h10, h11, fun h => ?_⟩
    · obtain ⟨b, off, e, hF, hl⟩ := h8 h
      exact ⟨b, off, e, hF, fun i y hi => hl.at i y hi⟩
    · obtain ⟨b, off, e, hF, hl⟩ := h12 h
      exact ⟨b, off, e, hF, fun i f hi => (hl.at i f hi).parts⟩
theorem RVs.shut {c : VC} {x : Val} (h : RVs F w c x) : RV F w c x := by
  cases x with
  | mk k n t l d =>
    simp only [RV]
    refine ⟨h.k, h.n, h.t, h.tsz, h.ln, h.lc, h.lsz, fun h' => ?_, h.dn, h.dc, h.dsz, fun h' => ?_⟩
    · obtain ⟨b, off, e, hF, hl⟩ := h.la h'
      exact ⟨b, off, e, hF, RLs.mk hl⟩
    · obtain ⟨b, off, e, hF, hl⟩ := h.da h'
      exact ⟨b, off, e, hF, RDs.mk fun i f hi => RF.mk (hl i f hi).1 (hl i f hi).2.1 (hl i f hi).2.2⟩

theorem RV.keepG {x : Val} : ∀ {c : VC}, RV F w c x → (∀ b, F b → b < w.heap.size → G b ∧ w'.heap[b]? = w.heap[b]?) → RV G w' c x := by
  induction x using Val.ind with
  | h k n t l d ihl ihd =>
    intro c h hk
    have ho := h.open
    refine RVs.shut ⟨ho.k, ho.n, ho.t, ho.tsz, ho.ln, ho.lc, ho.lsz, fun h' => ?_, ho.dn, ho.dc, ho.dsz, fun h' => ?_⟩
    · obtain ⟨b, off, e, hF, hl⟩ := ho.la h'
      have hb : b < w.heap.size := by
        obtain ⟨y, hy⟩ : ∃ y, l[0]? = some y := ⟨_, List.getElem?_eq_getElem (by have := ho.ln; simp only [Val.l] at this; omega)⟩
        obtain ⟨e', he', _⟩ := hl 0 y hy
        exact he'.lt
      refine ⟨b, off, e, hF.keepG hb hk, fun i y hi => ?_⟩
      obtain ⟨e', he', hr⟩ := hl i y hi
      exact ⟨e', he'.keep (hk b hF.1 hb).2, ihl y (List.mem_of_getElem? hi) hr hk⟩
    · obtain ⟨b, off, e, hF, hl⟩ := ho.da h'
      have hb : b < w.heap.size := by
        obtain ⟨y, hy⟩ : ∃ y, d[0]? = some y := ⟨_, List.getElem?_eq_getElem (by have := ho.dn; simp only [Val.d] at this; omega)⟩
        obtain ⟨_, _, e', he', _⟩ := hl 0 y hy
        exact he'.lt
      refine ⟨b, off, e, hF.keepG hb hk, fun i f hi => ?_⟩
      obtain ⟨hs, hz, e', he', hr⟩ := hl i f hi
      exact ⟨(World.cell?_of_block (w := w) (a := ⟨b, off + i * 6, none⟩) (hk b hF.1 hb).2).trans hs, hz, e', he'.keep (hk b hF.1 hb).2, ihd f (List.mem_of_getElem? hi) hr hk⟩
theorem RV.mono {c : VC} {x : Val} (h : RV F w c x) (hk : ∀ b, F b → G b) : RV G w c x := h.keepG fun b hb _ => ⟨hk b hb, rfl⟩
theorem RV.keep {c : VC} {x : Val} (h : RV F w c x) (hk : ∀ b, F b → w'.heap[b]? = w.heap[b]?) : RV F w' c x := h.keepG fun b hb _ => ⟨hb, hk b hb⟩
theorem RV.lt {c : VC} {x : Val} (h : RV F w c x) : RV (fun b => F b ∧ b < w.heap.size) w c x := h.keepG fun _ hb hl => ⟨⟨hb, hl⟩, rfl⟩
theorem RV.step {c : VC} {x : Val} (h : RV F w c x) (hb : Below w.heap.size w w') : RV F w' c x := h.keepG fun b hF hl => ⟨hF, hb.block b hl⟩
theorem RV.alloc {c : VC} {x : Val} (h : RV F w c x) (o : Obj) : RV F (w.alloc o) c x := h.step ((Below.refl _ _).alloc (Nat.le_refl _) o)
theorem RV.drewN {c : VC} {x : Val} (h : RV F w c x) (n : Nat) : RV F (w.drewN n) c x := h.keep fun _ _ => rfl
theorem RV.zero : RV F w VC.zero Val.zero := by
  refine RVs.shut ⟨rfl, rfl, rfl, by decide, rfl, Nat.le_refl _, by decide, fun h => absurd h (by decide), rfl, Nat.le_refl _, by decide, fun h => absurd h (by decide)⟩
end

abbrev RW (w : World) (c : VC) (x : Val) : Prop := RV (fun _ => True) w c x

end Go.Proofs.Ytefolbfopjfbcaa
