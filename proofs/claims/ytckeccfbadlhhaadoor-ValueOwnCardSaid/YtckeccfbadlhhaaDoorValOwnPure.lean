/- What is spoilt lies within what a call has made. -/
import Derived.Test.YtckeccfbadlhhaaDoorValSpoil
import Derived.Test.YtckeccfbadlhhaaDoorValRefCopy
namespace Go.Proofs.YtckeccfbadlhhaaDoor
open Go.RowKit

section
variable {F : Nat → Prop} {w w' : World}
theorem RV.unf {x : Val} (h0 : ¬ F 0) : ∀ {c : VC}, RV F w c x → RV (fun b => F b ∧ b < w.heap.size ∧ Unf w b) w c x := by
  induction x using Val.ind with
  | h k n t l d ihl ihd =>
    intro c h
    have ho := h.open
    refine RVs.shut ⟨ho.k, ho.n, ho.t, ho.tsz, ho.ln, ho.lc, ho.lsz, fun h' => ?_, ho.dn, ho.dc, ho.dsz, fun h' => ?_⟩
    · obtain ⟨b, off, e, hF, hl⟩ := ho.la h'
      have hb : b < w.heap.size := by
        obtain ⟨y, hy⟩ : ∃ y, l[0]? = some y := ⟨_, List.getElem?_eq_getElem (by have := ho.ln; simp only [Val.l] at this; omega)⟩
        obtain ⟨e', he', _⟩ := hl 0 y hy
        exact he'.lt
      refine ⟨b, off, e, ⟨⟨hF.1, hb, hF.2 h0⟩, fun _ => hF.2 h0⟩, fun i y hi => ?_⟩
      obtain ⟨e', he', hr⟩ := hl i y hi
      exact ⟨e', he', ihl y (List.mem_of_getElem? hi) hr⟩
    · obtain ⟨b, off, e, hF, hl⟩ := ho.da h'
      have hb : b < w.heap.size := by
        obtain ⟨y, hy⟩ : ∃ y, d[0]? = some y := ⟨_, List.getElem?_eq_getElem (by have := ho.dn; simp only [Val.d] at this; omega)⟩
        obtain ⟨_, _, e', he', _⟩ := hl 0 y hy
        exact he'.lt
      refine ⟨b, off, e, ⟨⟨hF.1, hb, hF.2 h0⟩, fun _ => hF.2 h0⟩, fun i f hi => ?_⟩
      obtain ⟨hs, hz, e', he', hr⟩ := hl i f hi
      exact ⟨hs, hz, e', he', ihd f (List.mem_of_getElem? hi) hr⟩
end
/-- from w to w' only blocks from lo on below hi have changed -/
structure Gap (lo hi : Nat) (w w' : World) : Prop where
  os : w'.os = w.os
  tape : w'.tape = w.tape
  output : w'.output = w.output
  size : w.heap.size ≤ w'.heap.size
  block : ∀ b, b < w.heap.size → (b < lo ∨ hi ≤ b) → w'.heap[b]? = w.heap[b]?
section
variable {lo hi : Nat} {w w' : World}
theorem Gap.below {B : Nat} (h : Gap lo hi w w') (hB : B ≤ w.heap.size) (hl : B ≤ lo) : Below B w w' := ⟨h.os, h.tape, h.output, h.size, fun b hb => h.block b (by omega) (.inl (by omega))⟩
theorem Gap.blk {b : Nat} {t : TypeId} {cs : Array Value} (h : Gap lo hi w w') (hb : Blk w b t cs) (hl : b < lo ∨ hi ≤ b) : Blk w' b t cs := (h.block b hb.lt hl).trans hb
theorem Gap.rv {G : Nat → Prop} {c : VC} {x : Val} (h : Gap lo hi w w') (hr : RV G w c x) (hd : ∀ b, G b → b < lo ∨ hi ≤ b) : RV G w' c x := hr.keepG fun b hb hl => ⟨hb, h.block b hl (hd b hb)⟩
theorem Gap.of_spo {F : Nat → Prop} (h : Spo F w w') (hF : ∀ b, F b → lo ≤ b ∧ b < hi) : Gap lo hi w w' := ⟨h.os, h.tape, h.output, h.size, fun b hb hl => h.block b hb (fun hf => by have := hF b hf; omega)⟩
end
theorem spoil_own (y : Val) (ca : VC) (w2 wS : World) (lo : Nat) (h : RV (fun b => lo ≤ b) w2 ca y) (hlo : 0 < lo) (hb : Below w2.heap.size w2 wS) :
    Calls Tryd.prog 33 #[ca.val, .int .i64 20] wS fun e w' => e = .returned (.tuple #[]) ∧ Gap lo w2.heap.size wS w' := by
  have h1 : RV (fun b => lo ≤ b ∧ b < w2.heap.size) wS ca y := h.lt.step hb
  have h2 := h1.unf (by omega)
  refine (spoil_any y ca ca 20 wS wS h2 (fun b hb => ⟨hb.2.1, hb.2.2⟩) Spo.refl (SimC.refl _) (by decide) (by decide)).mono ?_
  rintro e w' ⟨rfl, hs, _⟩
  exact ⟨rfl, Gap.of_spo hs fun b hb => hb.1⟩

/-- the boxes of ValueOwn, and what its arguments and their copies read as -/
structure OwI (w : World) (c e cc cw : VC) (x v : Val) (g7 g8 L : Nat) (wr : World) : Prop where
  b0 : Blk wr w.heap.size 25 c.arr
  b1 : Blk wr (w.heap.size + 1) 25 e.arr
  b7 : Blk wr g7 25 cc.arr
  b8 : Blk wr g8 25 cw.arr
  l7 : g7 < L
  l8 : g8 < L
  lw : w.heap.size + 1 < L
  rc : RV (fun b => b < L) wr cc x
  rv : RV (fun b => b < L) wr cw v
  bel : Below w.heap.size w wr
section
variable {w : World} {c e cc cw : VC} {x v : Val} {g7 g8 L : Nat} {wr w' : World}
theorem OwI.step (h : OwI w c e cc cw x v g7 g8 L wr) (hb : Below wr.heap.size wr w') : OwI w c e cc cw x v g7 g8 L w' := ⟨h.b0.step hb, h.b1.step hb, h.b7.step hb, h.b8.step hb, h.l7, h.l8, h.lw, h.rc.step hb, h.rv.step hb, h.bel.step' hb⟩
theorem OwI.gap {lo hi : Nat} (h : OwI w c e cc cw x v g7 g8 L wr) (hg : Gap lo hi wr w') (hl : L ≤ lo) (hs : L ≤ wr.heap.size) : OwI w c e cc cw x v g7 g8 L w' :=
  ⟨hg.blk h.b0 (.inl (by have := h.lw; omega)), hg.blk h.b1 (.inl (by have := h.lw; omega)), hg.blk h.b7 (.inl (by have := h.l7; omega)), hg.blk h.b8 (.inl (by have := h.l8; omega)), h.l7, h.l8, h.lw, hg.rv h.rc (fun b hb => .inl (by omega)), hg.rv h.rv (fun b hb => .inl (by omega)),
   h.bel.trans (hg.below (by have := h.lw; omega) (by have := h.lw; omega))⟩
theorem OwI.rc' (h : OwI w c e cc cw x v g7 g8 L wr) : RW wr cc x := h.rc.mono fun _ _ => trivial
theorem OwI.rv' (h : OwI w c e cc cw x v g7 g8 L wr) : RW wr cw v := h.rv.mono fun _ _ => trivial
end

end Go.Proofs.YtckeccfbadlhhaaDoor
