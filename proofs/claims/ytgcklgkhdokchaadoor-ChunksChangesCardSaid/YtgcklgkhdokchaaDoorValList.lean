/- Slices of values and of fields. -/
import Derived.Test.YtgcklgkhdokchaaDoorValPure
import Derived.Test.YtgcklgkhdokchaaDoorKit5
import Derived.Test.YtgcklgkhdokchaaDoorValMem
namespace Go.Proofs.YtgcklgkhdokchaaDoor
open Go.RowKit

abbrev PV := VC × Val
abbrev PF := VC × Fld
def recV (p : PV) : List Value := p.1.list
def recF (p : PF) : List Value := .string p.2.s :: p.1.list
theorem recV_length (p : PV) : (recV p).length = 5 := rfl
theorem recF_length (p : PF) : (recF p).length = 6 := rfl
theorem recV_one (p : PV) : ∀ u ∈ recV p, u.oneCell' = true := by simp [recV, VC.list, Value.oneCell']
theorem recF_one (p : PF) : ∀ u ∈ recF p, u.oneCell' = true := by simp [recF, VC.list, Value.oneCell']

/-- a slice of values, by its cells and what they read as -/
structure SL (F : Nat → Prop) (w : World) (A : Option Addr) (n c : Nat) (ps : List PV) : Prop where
  sr : SR 5 recV w A n c ps
  sz : n * 80 ≤ reach
  blk : 0 < n → ∃ b off, A = some ⟨b, off, none⟩ ∧ Ft F w b
  rv : ∀ p ∈ ps, RV F w p.1 p.2
/-- a slice of fields -/
structure SD (F : Nat → Prop) (w : World) (A : Option Addr) (n c : Nat) (ps : List PF) : Prop where
  sr : SR 6 recF w A n c ps
  sz : n * 96 ≤ reach
  blk : 0 < n → ∃ b off, A = some ⟨b, off, none⟩ ∧ Ft F w b
  ns : ∀ p ∈ ps, p.2.s.size ≤ reach
  rv : ∀ p ∈ ps, RV F w p.1 p.2.v

section
variable {F G : Nat → Prop} {w w' : World} {A : Option Addr} {n c : Nat}
theorem vat_of {b off : Nat} {u : VC} (h : ∀ (j : Nat) (v : Value), u.list[j]? = some v → w.cell? ⟨b, off + j, none⟩ = some v) : VAt w b off u :=
  ⟨h 0 _ rfl, h 1 _ rfl, h 2 _ rfl, h 3 _ rfl, h 4 _ rfl⟩
theorem vat_cell {b off : Nat} {u : VC} (h : VAt w b off u) : ∀ (j : Nat) (v : Value), u.list[j]? = some v → w.cell? ⟨b, off + j, none⟩ = some v := by
  obtain ⟨h0, h1, h2, h3, h4⟩ := h
  intro j v hj
  match j, hj with
  | 0, hj => simp [VC.list] at hj; subst hj; exact h0
  | 1, hj => simp [VC.list] at hj; subst hj; exact h1
  | 2, hj => simp [VC.list] at hj; subst hj; exact h2
  | 3, hj => simp [VC.list] at hj; subst hj; exact h3
  | 4, hj => simp [VC.list] at hj; subst hj; exact h4
  | j + 5, hj => simp [VC.list] at hj
theorem choose_list {α β : Type} {p : Nat → β → α → Prop} : ∀ {l : List β}, (∀ i y, l[i]? = some y → ∃ u, p i y u) → ∃ ps : List (α × β), ps.map Prod.snd = l ∧ ∀ i q, ps[i]? = some q → p i q.2 q.1 := by
  intro l
  induction l generalizing p with
  | nil => intro _; exact ⟨[], rfl, fun i q h => by simp at h⟩
  | cons y r ih =>
    intro h
    obtain ⟨u, hu⟩ := h 0 y rfl
    obtain ⟨ps, h1, h2⟩ := ih (p := fun i => p (i + 1)) (fun i y hy => h (i + 1) y (by simpa using hy))
    refine ⟨(u, y) :: ps, by simp [h1], fun i q hq => ?_⟩
    cases i with
    | zero => simp at hq; subst hq; exact hu
    | succ i => exact h2 i q (by simpa using hq)
theorem RV.sl {u : VC} {x : Val} (h : RV F w u x) : ∃ ps : List PV, ps.map Prod.snd = x.l ∧ SL F w u.LA u.ln u.lc ps := by
  have ho := h.open
  by_cases hn : 0 < u.ln
  · obtain ⟨b, off, e, hF, hl⟩ := ho.la hn
    obtain ⟨ps, h1, h2⟩ := choose_list hl
    have hlen : u.ln = ps.length := by rw [ho.ln, ← h1]; simp
    refine ⟨ps, h1, ⟨hlen, ho.lc, fun _ => ⟨b, off, e, ?_, fun i a hi j v hj => vat_cell (h2 i a hi).1 j v hj⟩⟩, ho.lsz, fun _ => ⟨b, off, e, hF⟩, fun p hp => ?_⟩
    · obtain ⟨q, hq⟩ : ∃ q, ps[0]? = some q := ⟨_, List.getElem?_eq_getElem (by omega)⟩
      exact (h2 0 q hq).1.lt
    · obtain ⟨i, hi⟩ := List.getElem?_of_mem hp
      exact (h2 i p hi).2
  · have h0 : u.ln = 0 := by omega
    have hx : x.l = [] := List.eq_nil_of_length_eq_zero (by rw [← ho.ln]; exact h0)
    exact ⟨[], by rw [hx]; rfl, ⟨by rw [h0]; rfl, ho.lc, fun h => absurd h hn⟩, ho.lsz, fun h => absurd h hn, fun p hp => by simp at hp⟩
theorem RV.sd {u : VC} {x : Val} (h : RV F w u x) : ∃ ps : List PF, ps.map Prod.snd = x.d ∧ SD F w u.DA u.dn u.dc ps := by
  have ho := h.open
  by_cases hn : 0 < u.dn
  · obtain ⟨b, off, e, hF, hl⟩ := ho.da hn
    obtain ⟨ps, h1, h2⟩ := choose_list (p := fun i (f : Fld) (v : VC) => w.cell? ⟨b, off + i * 6, none⟩ = some (.string f.s) ∧ f.s.size ≤ reach ∧ VAt w b (off + i * 6 + 1) v ∧ RV F w v f.v) (fun i f hf => by
      obtain ⟨h1, h2, v, h3, h4⟩ := hl i f hf
      exact ⟨v, h1, h2, h3, h4⟩)
    have hlen : u.dn = ps.length := by rw [ho.dn, ← h1]; simp
    refine ⟨ps, h1, ⟨hlen, ho.dc, fun _ => ⟨b, off, e, ?_, fun i a hi j v hj => ?_⟩⟩, ho.dsz, fun _ => ⟨b, off, e, hF⟩, fun p hp => ?_, fun p hp => ?_⟩
    · obtain ⟨q, hq⟩ : ∃ q, ps[0]? = some q := ⟨_, List.getElem?_eq_getElem (by omega)⟩
      exact (h2 0 q hq).2.2.1.lt
    · obtain ⟨k0, _, k1, _⟩ := h2 i a hi
      cases j with
      | zero => simp [recF] at hj; subst hj; exact k0
      | succ j =>
        have := vat_cell k1 j v (by simpa [recF] using hj)
        rw [show off + i * 6 + (j + 1) = off + i * 6 + 1 + j by omega]
        exact this
    · obtain ⟨i, hi⟩ := List.getElem?_of_mem hp
      exact (h2 i p hi).2.1
    · obtain ⟨i, hi⟩ := List.getElem?_of_mem hp
      exact (h2 i p hi).2.2.2
  · have h0 : u.dn = 0 := by omega
    have hx : x.d = [] := List.eq_nil_of_length_eq_zero (by rw [← ho.dn]; exact h0)
    exact ⟨[], by rw [hx]; rfl, ⟨by rw [h0]; rfl, ho.dc, fun h => absurd h hn⟩, ho.dsz, fun h => absurd h hn, fun p hp => by simp at hp, fun p hp => by simp at hp⟩
/-- back from slices to a value -/
theorem RV.of_slices {k m : Int} {t : ByteArray} {LA DA : Option Addr} {ln lc dn dc : Nat} {ps : List PV} {fs : List PF} (ht : t.size ≤ reach) (hl : SL F w LA ln lc ps) (hd : SD F w DA dn dc fs) :
    RV F w ⟨k, m, t, LA, ln, lc, DA, dn, dc⟩ (.mk k m t (ps.map Prod.snd) (fs.map Prod.snd)) := by
  refine RVs.shut ⟨rfl, rfl, rfl, ht, by simp [Val.l, hl.sr.ln], hl.sr.lc, hl.sz, fun hn => ?_, by simp [Val.d, hd.sr.ln], hd.sr.lc, hd.sz, fun hn => ?_⟩
  · obtain ⟨b, off, e, _, hel⟩ := hl.sr.el hn
    obtain ⟨b', off', e', hF⟩ := hl.blk hn
    rw [e] at e'
    cases e'
    refine ⟨b, off, e, hF, fun i y hi => ?_⟩
    simp only [Val.l, List.getElem?_map] at hi
    obtain ⟨p, hp, rfl⟩ := Option.map_eq_some_iff.1 hi
    exact ⟨p.1, vat_of fun j v hj => hel i p hp j v hj, hl.rv p (List.mem_of_getElem? hp)⟩
  · obtain ⟨b, off, e, _, hel⟩ := hd.sr.el hn
    obtain ⟨b', off', e', hF⟩ := hd.blk hn
    rw [e] at e'
    cases e'
    refine ⟨b, off, e, hF, fun i y hi => ?_⟩
    simp only [Val.d, List.getElem?_map] at hi
    obtain ⟨p, hp, rfl⟩ := Option.map_eq_some_iff.1 hi
    refine ⟨hel i p hp 0 _ rfl, hd.ns p (List.mem_of_getElem? hp), p.1, vat_of fun j v hj => ?_, hd.rv p (List.mem_of_getElem? hp)⟩
    have := hel i p hp (j + 1) v (by simpa [recF] using hj)
    rw [show off + i * 6 + 1 + j = off + i * 6 + (j + 1) by omega]
    exact this
theorem SL.vat {ps : List PV} (h : SL F w A n c ps) {i : Nat} {p : PV} (hi : ps[i]? = some p) : ∃ b off, A = some ⟨b, off, none⟩ ∧ F b ∧ VAt w b (off + i * 5) p.1 ∧ RV F w p.1 p.2 := by
  have hn : 0 < n := by have := (List.getElem?_eq_some_iff.1 hi).1; have := h.sr.ln; omega
  obtain ⟨b, off, e, _, hel⟩ := h.sr.el hn
  obtain ⟨b', off', e', hF⟩ := h.blk hn
  rw [e] at e'
  cases e'
  exact ⟨b, off, e, hF.1, vat_of fun j v hj => hel i p hi j v hj, h.rv p (List.mem_of_getElem? hi)⟩
theorem SD.vat {ps : List PF} (h : SD F w A n c ps) {i : Nat} {p : PF} (hi : ps[i]? = some p) : ∃ b off, A = some ⟨b, off, none⟩ ∧ F b ∧ w.cell? ⟨b, off + i * 6, none⟩ = some (.string p.2.s) ∧ VAt w b (off + i * 6 + 1) p.1 ∧ RV F w p.1 p.2.v := by
  have hn : 0 < n := by have := (List.getElem?_eq_some_iff.1 hi).1; have := h.sr.ln; omega
  obtain ⟨b, off, e, _, hel⟩ := h.sr.el hn
  obtain ⟨b', off', e', hF⟩ := h.blk hn
  rw [e] at e'
  cases e'
  refine ⟨b, off, e, hF.1, hel i p hi 0 _ rfl, vat_of fun j v hj => ?_, h.rv p (List.mem_of_getElem? hi)⟩
  have := hel i p hi (j + 1) v (by simpa [recF] using hj)
  rw [show off + i * 6 + 1 + j = off + i * 6 + (j + 1) by omega]
  exact this
theorem SL.step {ps : List PV} (h : SL F w A n c ps) (hb : Below w.heap.size w w') : SL F w' A n c ps := ⟨h.sr.step hb, h.sz, fun hn => by
  obtain ⟨b, off, e, hF⟩ := h.blk hn
  obtain ⟨b', off', e', hl, _⟩ := h.sr.el hn
  rw [e] at e'
  cases e'
  exact ⟨b, off, e, hF.keepG hl fun q hq hql => ⟨hq, hb.block q hql⟩⟩, fun p hp => (h.rv p hp).step hb⟩
theorem SD.step {ps : List PF} (h : SD F w A n c ps) (hb : Below w.heap.size w w') : SD F w' A n c ps := ⟨h.sr.step hb, h.sz, fun hn => by
  obtain ⟨b, off, e, hF⟩ := h.blk hn
  obtain ⟨b', off', e', hl, _⟩ := h.sr.el hn
  rw [e] at e'
  cases e'
  exact ⟨b, off, e, hF.keepG hl fun q hq hql => ⟨hq, hb.block q hql⟩⟩, h.ns, fun p hp => (h.rv p hp).step hb⟩
theorem SL.mono {ps : List PV} (h : SL F w A n c ps) (hk : ∀ b, F b → G b) : SL G w A n c ps := ⟨h.sr, h.sz, fun hn => by obtain ⟨b, off, e, hF⟩ := h.blk hn; exact ⟨b, off, e, hk b hF.1, fun hG => hF.2 fun h0 => hG (hk 0 h0)⟩, fun p hp => (h.rv p hp).mono hk⟩
theorem SD.mono {ps : List PF} (h : SD F w A n c ps) (hk : ∀ b, F b → G b) : SD G w A n c ps := ⟨h.sr, h.sz, fun hn => by obtain ⟨b, off, e, hF⟩ := h.blk hn; exact ⟨b, off, e, hk b hF.1, fun hG => hF.2 fun h0 => hG (hk 0 h0)⟩, h.ns, fun p hp => (h.rv p hp).mono hk⟩
theorem SL.nil : SL F w none 0 0 [] := ⟨SR.nil, by decide, fun h => absurd h (Nat.lt_irrefl 0), fun p hp => by simp at hp⟩
theorem SD.nil : SD F w none 0 0 [] := ⟨SR.nil, by decide, fun h => absurd h (Nat.lt_irrefl 0), fun p hp => by simp at hp, fun p hp => by simp at hp⟩
theorem SL.of_own {base : Nat} {t : TypeId} {v : Value} {ps : List PV} (h : w.ownsRow base t 5 v n (flat recV ps)) (hl : ps.length = n) (hz : n * 80 ≤ reach) (hF : ∀ b, base ≤ b → F b) (hr : ∀ p ∈ ps, RV F w p.1 p.2) : ∃ A c, v = .slice A n c ∧ SL F w A n c ps := by
  obtain ⟨A, c, rfl, hs⟩ := SR.of_own recV_length h hl
  refine ⟨A, c, rfl, hs, hz, fun hn => ?_, hr⟩
  obtain ⟨b, off, rfl, _⟩ := hs.el hn
  rcases h.2 with ⟨h', _⟩ | ⟨g, cap, cur, hv, hg, hbl, _⟩
  · cases h'
  · cases hv
    exact ⟨b, 0, rfl, hF b hg, fun _ i => Blk.frozen (t := t) (cs := cur) hbl i⟩
theorem SD.of_own {base : Nat} {t : TypeId} {v : Value} {ps : List PF} (h : w.ownsRow base t 6 v n (flat recF ps)) (hl : ps.length = n) (hz : n * 96 ≤ reach) (hF : ∀ b, base ≤ b → F b) (hs : ∀ p ∈ ps, p.2.s.size ≤ reach) (hr : ∀ p ∈ ps, RV F w p.1 p.2.v) : ∃ A c, v = .slice A n c ∧ SD F w A n c ps := by
  obtain ⟨A, c, rfl, hsr⟩ := SR.of_own recF_length h hl
  refine ⟨A, c, rfl, hsr, hz, fun hn => ?_, hs, hr⟩
  obtain ⟨b, off, rfl, _⟩ := hsr.el hn
  rcases h.2 with ⟨h', _⟩ | ⟨g, cap, cur, hv, hg, hbl, _⟩
  · cases h'
  · cases hv
    exact ⟨b, 0, rfl, hF b hg, fun _ i => Blk.frozen (t := t) (cs := cur) hbl i⟩
end
end Go.Proofs.YtgcklgkhdokchaaDoor
