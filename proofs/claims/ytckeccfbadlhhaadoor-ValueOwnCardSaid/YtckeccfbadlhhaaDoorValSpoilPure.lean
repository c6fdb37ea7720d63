/- What spoiling does to memory: cells keep their kinds, slices stay or become nil. -/
import Derived.Test.YtckeccfbadlhhaaDoorValMem
namespace Go.Proofs.YtckeccfbadlhhaaDoor
open Go.RowKit

/-- a cell and what it may have become -/
def Sim (v v' : Value) : Prop := v' = v ∨ (∃ a b, v = .int .i64 a ∧ v' = .int .i64 b) ∨ (∃ s t, v = .string s ∧ v' = .string t) ∨ (∃ A n c, v = .slice A n c ∧ v' = .slice none 0 0)
theorem Sim.int {v v' : Value} {a : Int} (h : Sim v v') (e : v = .int .i64 a) : ∃ b, v' = .int .i64 b := by
  rcases h with rfl | ⟨_, b, _, rfl⟩ | ⟨s, t, h1, _⟩ | ⟨A, n, c, h1, _⟩
  · exact ⟨a, e⟩
  · exact ⟨b, rfl⟩
  · rw [e] at h1; cases h1
  · rw [e] at h1; cases h1
theorem Sim.str {v v' : Value} {s : ByteArray} (h : Sim v v') (e : v = .string s) : ∃ t, v' = .string t := by
  rcases h with rfl | ⟨a, b, h1, _⟩ | ⟨_, t, _, rfl⟩ | ⟨A, n, c, h1, _⟩
  · exact ⟨s, e⟩
  · rw [e] at h1; cases h1
  · exact ⟨t, rfl⟩
  · rw [e] at h1; cases h1
theorem Sim.sli {v v' : Value} {A : Option Addr} {n c : Nat} (h : Sim v v') (e : v = .slice A n c) : v' = .slice A n c ∨ v' = .slice none 0 0 := by
  rcases h with rfl | ⟨a, b, h1, _⟩ | ⟨s, t, h1, _⟩ | ⟨_, _, _, _, h2⟩
  · exact .inl e
  · rw [e] at h1; cases h1
  · rw [e] at h1; cases h1
  · exact .inr h2

/-- w' is w with cells of the blocks of F spoilt -/
structure Spo (F : Nat → Prop) (w w' : World) : Prop where
  os : w'.os = w.os
  tape : w'.tape = w.tape
  output : w'.output = w.output
  size : w.heap.size ≤ w'.heap.size
  block : ∀ b, b < w.heap.size → ¬ F b → w'.heap[b]? = w.heap[b]?
  cell : ∀ b o v, F b → w.cell? ⟨b, o, none⟩ = some v → ∃ v', w'.cell? ⟨b, o, none⟩ = some v' ∧ Sim v v'
  fr : ∀ b o, F b → b < w.heap.size → w'.frozen? ⟨b, o, none⟩ = w.frozen? ⟨b, o, none⟩
section
variable {F : Nat → Prop} {w w1 w2 : World}
theorem Spo.refl : Spo F w w := ⟨rfl, rfl, rfl, Nat.le_refl _, fun _ _ _ => rfl, fun _ _ v _ h => ⟨v, h, .inl rfl⟩, fun _ _ _ _ => rfl⟩
theorem Spo.step (h : Spo F w w1) (hF : ∀ b, F b → b < w.heap.size) (hb : Below w1.heap.size w1 w2) : Spo F w w2 := by
  refine ⟨hb.os.trans h.os, hb.tape.trans h.tape, hb.output.trans h.output, Nat.le_trans h.size hb.size, fun b hl hn => (hb.block b (Nat.lt_of_lt_of_le hl h.size)).trans (h.block b hl hn), fun b o v hf hv => ?_, fun b o hf hl => ?_⟩
  · obtain ⟨v', h1, h2⟩ := h.cell b o v hf hv
    exact ⟨v', (hb.cell (p := ⟨b, o, none⟩) (Nat.lt_of_lt_of_le (hF b hf) h.size)).trans h1, h2⟩
  · exact (hb.frozen (p := ⟨b, o, none⟩) (Nat.lt_of_lt_of_le hl h.size)).trans (h.fr b o hf hl)
theorem frozen_setCell (w : World) (p q : Addr) (u : Value) : (w.setCell p u).frozen? q = w.frozen? q := World.frozen?_setCell w p q u
theorem Spo.set (h : Spo F w w1) {b o : Nat} {u v : Value} (hF : F b) (hv : w.cell? ⟨b, o, none⟩ = some v) (hs : Sim v u) : Spo F w (w1.setCell ⟨b, o, none⟩ u) := by
  refine ⟨h.os, h.tape, h.output, by simpa [World.setCell] using h.size, fun b' hl hn => ?_, fun b' o' v' hf hv' => ?_, fun b' o' hf hl => ?_⟩
  · rw [Below.heap_setCell _ _ _ _ (fun e => hn (by rw [e]; exact hF))]
    exact h.block b' hl hn
  · by_cases e : b' = b ∧ o' = o
    · obtain ⟨rfl, rfl⟩ := e
      obtain ⟨v1, h1, _⟩ := h.cell b' o' v hF hv
      rw [hv] at hv'
      cases hv'
      exact ⟨u, World.cell?_setCell_same _ _ _ h1, hs⟩
    · obtain ⟨v1, h1, h2⟩ := h.cell b' o' v' hf hv'
      exact ⟨v1, (World.cell?_setCell_other _ _ _ _ (addr_ne (by omega))).trans h1, h2⟩
  · rw [frozen_setCell]
    exact h.fr b' o' hf hl
/-- a value's cells and what they may have become -/
structure SimC (c c' : VC) : Prop where
  l : (c'.LA = c.LA ∧ c'.ln = c.ln ∧ c'.lc = c.lc) ∨ (c'.LA = none ∧ c'.ln = 0 ∧ c'.lc = 0)
  d : (c'.DA = c.DA ∧ c'.dn = c.dn ∧ c'.dc = c.dc) ∨ (c'.DA = none ∧ c'.dn = 0 ∧ c'.dc = 0)
theorem SimC.refl (c : VC) : SimC c c := ⟨.inl ⟨rfl, rfl, rfl⟩, .inl ⟨rfl, rfl, rfl⟩⟩
theorem Spo.vat (h : Spo F w w1) {b off : Nat} {c : VC} (hF : F b) (hv : VAt w b off c) : ∃ c', VAt w1 b off c' ∧ SimC c c' := by
  obtain ⟨h0, h1, h2, h3, h4⟩ := hv
  obtain ⟨v0, e0, s0⟩ := h.cell b _ _ hF h0
  obtain ⟨v1, e1, s1⟩ := h.cell b _ _ hF h1
  obtain ⟨v2, e2, s2⟩ := h.cell b _ _ hF h2
  obtain ⟨v3, e3, s3⟩ := h.cell b _ _ hF h3
  obtain ⟨v4, e4, s4⟩ := h.cell b _ _ hF h4
  obtain ⟨k, rfl⟩ := s0.int rfl
  obtain ⟨n, rfl⟩ := s1.int rfl
  obtain ⟨t, rfl⟩ := s2.str rfl
  rcases s3.sli rfl with rfl | rfl <;> rcases s4.sli rfl with rfl | rfl
  · exact ⟨⟨k, n, t, c.LA, c.ln, c.lc, c.DA, c.dn, c.dc⟩, ⟨e0, e1, e2, e3, e4⟩, .inl ⟨rfl, rfl, rfl⟩, .inl ⟨rfl, rfl, rfl⟩⟩
  · exact ⟨⟨k, n, t, c.LA, c.ln, c.lc, none, 0, 0⟩, ⟨e0, e1, e2, e3, e4⟩, .inl ⟨rfl, rfl, rfl⟩, .inr ⟨rfl, rfl, rfl⟩⟩
  · exact ⟨⟨k, n, t, none, 0, 0, c.DA, c.dn, c.dc⟩, ⟨e0, e1, e2, e3, e4⟩, .inr ⟨rfl, rfl, rfl⟩, .inl ⟨rfl, rfl, rfl⟩⟩
  · exact ⟨⟨k, n, t, none, 0, 0, none, 0, 0⟩, ⟨e0, e1, e2, e3, e4⟩, .inr ⟨rfl, rfl, rfl⟩, .inr ⟨rfl, rfl, rfl⟩⟩
/-- a value is overwritten by one without parts -/
theorem Spo.setV {b off : Nat} {c : VC} (h : Spo F w w1) (hF : F b) (hv : VAt w b off c) (k n : Int) (t : ByteArray) : Spo F w (Go.Proofs.YtckeccfbadlhhaaDoor.setV w1 b off ⟨k, n, t, none, 0, 0, none, 0, 0⟩) := by
  obtain ⟨h0, h1, h2, h3, h4⟩ := hv
  exact ((((h.set hF h0 (.inr (.inl ⟨_, _, rfl, rfl⟩))).set hF h1 (.inr (.inl ⟨_, _, rfl, rfl⟩))).set hF h2 (.inr (.inr (.inl ⟨_, _, rfl, rfl⟩)))).set hF h3 (.inr (.inr (.inr ⟨_, _, _, rfl, rfl⟩)))).set hF h4 (.inr (.inr (.inr ⟨_, _, _, rfl, rfl⟩)))
theorem Spo.setF {b off : Nat} {c : VC} {s : ByteArray} (h : Spo F w w1) (hF : F b) (hs : w.cell? ⟨b, off, none⟩ = some (.string s)) (hv : VAt w b (off + 1) c) (s' : ByteArray) : Spo F w (Go.Proofs.YtckeccfbadlhhaaDoor.setV (w1.setCell ⟨b, off, none⟩ (.string s')) b (off + 1) VC.zero) :=
  (h.set hF hs (.inr (.inr (.inl ⟨_, _, rfl, rfl⟩)))).setV hF hv _ _ _
theorem Spo.keep {G : Nat → Prop} {c : VC} {x : Val} (h : Spo F w w1) (hr : RV G w c x) (hd : ∀ b, G b → ¬ F b) : RV G w1 c x := hr.keepG fun b hb hl => ⟨hb, h.block b hl (hd b hb)⟩
theorem Spo.below {B : Nat} (h : Spo F w w1) (hB : B ≤ w.heap.size) (hd : ∀ b, F b → B ≤ b) : Below B w w1 := ⟨h.os, h.tape, h.output, h.size, fun b hb => h.block b (by omega) (fun hf => by have := hd b hf; omega)⟩
end

end Go.Proofs.YtckeccfbadlhhaaDoor
