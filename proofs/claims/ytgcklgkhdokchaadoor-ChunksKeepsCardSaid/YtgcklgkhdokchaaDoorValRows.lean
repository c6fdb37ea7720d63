/- Rows of values and fields of the call's own. -/
import Derived.Test.YtgcklgkhdokchaaDoorValList
namespace Go.Proofs.YtgcklgkhdokchaaDoor
open Go.RowKit

theorem flat_at' {α : Type} {rec : α → List Value} {s : Nat} (hs : ∀ a, (rec a).length = s) (hp : 0 < s) (xs : List α) (k : Nat) (hk : k < xs.length * s) : ∃ a v, xs[k / s]? = some a ∧ (rec a)[k % s]? = some v ∧ (flat rec xs)[k]? = some v := by
  have h1 : k / s < xs.length := Nat.div_lt_of_lt_mul (by rw [Nat.mul_comm]; exact hk)
  have h2 : k % s < s := Nat.mod_lt _ hp
  refine ⟨xs[k / s], (rec xs[k / s])[k % s]'(by rw [hs]; exact h2), List.getElem?_eq_getElem h1, List.getElem?_eq_getElem (by rw [hs]; exact h2), ?_⟩
  have := flat_get hs (List.getElem?_eq_getElem h1) (List.getElem?_eq_getElem (l := rec xs[k / s]) (i := k % s) (by rw [hs]; exact h2))
  rw [show k / s * s + k % s = k by rw [Nat.mul_comm]; exact Nat.div_add_mod k s] at this
  exact this
/-- a row whose cells are known, whole -/
theorem blk_of_row {α : Type} {rec : α → List Value} {s : Nat} (hs : ∀ a, (rec a).length = s) (hp : 0 < s) {w : World} {g : Nat} {t : TypeId} {L : List α} (h : Row w g t (L.length * s)) (hel : ∀ j p, L[j]? = some p → ∀ i v, (rec p)[i]? = some v → w.cell? ⟨g, j * s + i, none⟩ = some v) : Blk w g t (flat rec L).toArray := by
  obtain ⟨cs, h1, h2⟩ := h
  have e : cs = (flat rec L).toArray := by
    apply Array.ext'
    apply List.ext_getElem?
    intro k
    by_cases hk : k < L.length * s
    · obtain ⟨p, v, g1, g2, g3⟩ := flat_at' hs hp L k hk
      rw [List.toList_toArray, g3]
      have hc := h1.cell k
      have hv := hel (k / s) p g1 (k % s) v g2
      rw [show k / s * s + k % s = k by rw [Nat.mul_comm]; exact Nat.div_add_mod k s, hc] at hv
      rw [← hv]
      simp
    · rw [List.getElem?_eq_none (by simp; omega), List.getElem?_eq_none (by rw [List.toList_toArray, flat_length hs]; omega)]
  rw [← e]
  exact h1
theorem own_of_blk {α : Type} {rec : α → List Value} {s : Nat} (hs : ∀ a, (rec a).length = s) {w : World} {g : Nat} {t : TypeId} {L : List α} (h : Blk w g t (flat rec L).toArray) {base : Nat} (hb : base ≤ g) (hm : L.length ≤ maxLen) : w.ownsRow base t s (.slice (some ⟨g, 0, none⟩) L.length L.length) L.length (flat rec L) :=
  ⟨flat_length hs L, .inr ⟨g, L.length, (flat rec L).toArray, rfl, hb, h, Nat.le_refl _, hm, by simp [flat_length hs], by rw [List.toList_toArray, ← flat_length hs]; exact List.take_length⟩⟩

theorem Cl.step {lo mid : Nat} {w w' : World} {c : VC} {x : Val} (h : Cl lo mid w c x) (hb : Below w.heap.size w w') : Cl lo mid w' c x := by
  refine ⟨h.k, h.n, h.t, h.tsz, h.ln, h.lc, h.lsz, h.l0, fun hn => ?_, h.hmid, h.dn, h.dc, h.dsz, h.d0, fun hn => ?_⟩
  · obtain ⟨g, h1, h2, h3, h4, h5⟩ := h.la hn
    refine ⟨g, h1, h2, h3, h4.step hb, fun i y hi => ?_⟩
    obtain ⟨e, k1, k2⟩ := h5 i y hi
    exact ⟨e, k1.step hb, k2.step hb⟩
  · obtain ⟨g, h1, h2, h3, h4⟩ := h.da hn
    refine ⟨g, h1, h2, h3.step hb, fun i f hi => ?_⟩
    obtain ⟨k0, kz, e, k1, k2⟩ := h4 i f hi
    exact ⟨(hb.cell (p := ⟨g, i * 6, none⟩) h3.lt).trans k0, kz, e, k1.step hb, k2.step hb⟩

/-- the fields of a copy, as a row of its own -/
theorem gr_cell {w3 w4 : World} {o : Obj} {row : Option Nat} (hg : (w3.alloc o).grownBy w4 row) {p : Addr} {v : Value} (h : w3.cell? p = some v) (hne : row ≠ some p.block) : w4.cell? p = some v := by
  have hlt := World.block_lt_of_cell? w3 p h
  rw [World.cell?_of_block (w := w3.alloc o) (hg.block p.block (by simp; omega) (fun e => hne e.symm)), World.cell?_alloc_lt w3 o p hlt]
  exact h
theorem gr_frozen {w3 w4 : World} {o : Obj} {row : Option Nat} (hg : (w3.alloc o).grownBy w4 row) {p : Addr} (hlt : p.block < w3.heap.size) (hne : row ≠ some p.block) : w4.frozen? p = w3.frozen? p := by
  rw [World.frozen?_of_block (w := w3.alloc o) (hg.block p.block (by simp; omega) (fun e => hne e.symm)), World.frozen?_of_block (w := w3) (Below.heap_alloc w3 o p.block hlt)]
theorem Cl.own {lo mid : Nat} {w : World} {c : VC} {x : Val} (h : Cl lo mid w c x) : ∃ fs : List PF, fs.map Prod.snd = x.d ∧ w.ownsRow lo 81 6 (.slice c.DA c.dn c.dc) c.dn (flat recF fs) ∧
    ∀ p ∈ fs, p.2.s.size ≤ reach ∧ RV (fun b => lo ≤ b ∧ (Value.slice c.DA c.dn c.dc).ownBlock ≠ some b) w p.1 p.2.v := by
  have hdc := h.dc
  by_cases hn : 0 < c.dn
  · obtain ⟨g, hA, hg, hrow, hel⟩ := h.da hn
    obtain ⟨fs, h1, h2⟩ := choose_list (p := fun i (f : Fld) (v : VC) => w.cell? ⟨g, i * 6, none⟩ = some (.string f.s) ∧ f.s.size ≤ reach ∧ VAt w g (i * 6 + 1) v ∧ RV (fun b => g < b) w v f.v) (l := x.d) (fun i f hf => by
      obtain ⟨h1, h2, v, h3, h4⟩ := hel i f hf
      exact ⟨v, h1, h2, h3, h4⟩)
    have hl : fs.length = c.dn := by rw [h.dn, ← h1]; simp
    have hb : Blk w g 81 (flat recF fs).toArray := blk_of_row recF_length (by omega) (by rw [hl]; exact hrow) (fun j p hp i v hv => by
      obtain ⟨k0, _, k1, _⟩ := h2 j p hp
      cases i with
      | zero => simp [recF] at hv; subst hv; exact k0
      | succ i =>
        have := vat_cell k1 i v (by simpa [recF] using hv)
        rw [show j * 6 + (i + 1) = j * 6 + 1 + i by omega]
        exact this)
    have hz := h.dsz
    unfold reach at hz
    have := own_of_blk recF_length hb (base := lo) (by have := h.hmid; omega) (by rw [hl]; unfold maxLen; omega)
    rw [hl] at this
    refine ⟨fs, h1, by rw [hA, hdc]; exact this, fun p hp => ?_⟩
    obtain ⟨i, hi⟩ := List.getElem?_of_mem hp
    obtain ⟨_, k2, _, k4⟩ := h2 i p hi
    refine ⟨k2, k4.mono fun b hb => ⟨by have := h.hmid; omega, ?_⟩⟩
    rw [hA]
    simp [Value.ownBlock]
    omega
  · have h0 : c.dn = 0 := by omega
    have hx : x.d = [] := List.eq_nil_of_length_eq_zero (by rw [← h.dn]; exact h0)
    refine ⟨[], by rw [hx]; rfl, ?_, fun p hp => by simp at hp⟩
    rw [h.d0 h0, hdc, h0]
    exact own_nil _ _ _ _

/-- the elements of a copy's list -/
theorem Cl.lst {lo mid : Nat} {w : World} {c : VC} {x : Val} (h : Cl lo mid w c x) : ∃ ps : List PV, ps.map Prod.snd = x.l ∧ SL (fun b => (lo ≤ b ∧ (Value.slice c.DA c.dn c.dc).ownBlock ≠ some b) ∧ b < w.heap.size) w c.LA c.ln c.lc ps := by
  have hne : ∀ b, b < mid → (Value.slice c.DA c.dn c.dc).ownBlock ≠ some b := by
    intro b hb hh
    by_cases hn : 0 < c.dn
    · obtain ⟨g, hA, hg, _⟩ := h.da hn
      rw [hA] at hh
      simp [Value.ownBlock] at hh
      omega
    · rw [h.d0 (by omega)] at hh
      simp [Value.ownBlock] at hh
  by_cases hn : 0 < c.ln
  · obtain ⟨g, hA, hg, hgm, hrow, hel⟩ := h.la hn
    obtain ⟨ps, h1, h2⟩ := choose_list hel
    have hl : c.ln = ps.length := by rw [h.ln, ← h1]; simp
    refine ⟨ps, h1, ⟨hl, by rw [h.lc]; exact Nat.le_refl _, fun _ => ⟨g, 0, hA, hrow.lt, fun i a hi j v hj => ?_⟩⟩, h.lsz, fun _ => ⟨g, 0, hA, ⟨⟨hg, hne g hgm⟩, hrow.lt⟩, fun _ => hrow.frozen⟩, fun p hp => ?_⟩
    · rw [Nat.zero_add]
      exact vat_cell (h2 i a hi).1 j v hj
    · obtain ⟨i, hi⟩ := List.getElem?_of_mem hp
      exact ((h2 i p hi).2.mono (G := fun b => lo ≤ b ∧ (Value.slice c.DA c.dn c.dc).ownBlock ≠ some b) fun b hb => ⟨by omega, hne b hb.2⟩).lt
  · have h0 : c.ln = 0 := by omega
    have hx : x.l = [] := List.eq_nil_of_length_eq_zero (by rw [← h.ln]; exact h0)
    exact ⟨[], by rw [hx]; rfl, ⟨by rw [h0]; rfl, by rw [h.lc]; exact Nat.le_refl _, fun h => absurd h hn⟩, h.lsz, fun h => absurd h hn, fun p hp => by simp at hp⟩
theorem SL.keepG {F G : Nat → Prop} {w w' : World} {A : Option Addr} {n c : Nat} {ps : List PV} (h : SL F w A n c ps) (hk : ∀ b, F b → b < w.heap.size → G b ∧ w'.heap[b]? = w.heap[b]?) : SL G w' A n c ps := by
  refine ⟨⟨h.sr.ln, h.sr.lc, fun hn => ?_⟩, h.sz, fun hn => ?_, fun p hp => (h.rv p hp).keepG hk⟩
  · obtain ⟨b, off, h1, h2, h3⟩ := h.sr.el hn
    obtain ⟨b', off', h1', hF⟩ := h.blk hn
    rw [h1] at h1'
    cases h1'
    have he := (hk b hF.1 h2).2
    refine ⟨b, off, h1, ?_, fun i a hi j v hj => (World.cell?_of_block (w := w) (a := ⟨b, off + i * 5 + j, none⟩) he).trans (h3 i a hi j v hj)⟩
    rcases Nat.lt_or_ge b w'.heap.size with hlt | hge
    · exact hlt
    · rw [Array.getElem?_eq_none hge, Array.getElem?_eq_getElem h2] at he
      cases he
  · obtain ⟨b, off, h1, h2, h3⟩ := h.sr.el hn
    obtain ⟨b', off', h1', hF⟩ := h.blk hn
    rw [h1] at h1'
    cases h1'
    exact ⟨b, off, h1, hF.keepG h2 hk⟩
theorem own_keep {w w' : World} {base : Nat} {e : TypeId} {size n : Nat} {v : Value} {xs : List Value} (h : w.ownsRow base e size v n xs) (hk : ∀ g, v.ownBlock = some g → w'.heap[g]? = w.heap[g]?) : w'.ownsRow base e size v n xs := by
  refine ⟨h.1, ?_⟩
  rcases h.2 with h2 | ⟨g, cap, cur, rfl, hg, hh, hr⟩
  · exact .inl h2
  · exact .inr ⟨g, cap, cur, rfl, hg, (hk g rfl).trans hh, hr⟩

end Go.Proofs.YtgcklgkhdokchaaDoor
