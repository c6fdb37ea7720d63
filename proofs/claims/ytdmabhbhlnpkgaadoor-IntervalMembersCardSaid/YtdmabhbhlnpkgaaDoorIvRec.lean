/- Cuts, spans and intervals in memory. -/
import Derived.Test.YtdmabhbhlnpkgaaDoorIvCut
import Derived.Test.YtdmabhbhlnpkgaaDoorValList
namespace Go.Proofs.YtdmabhbhlnpkgaaDoor
open Go.RowKit

abbrev PC := PV × Bool
abbrev PS := PC × PC
abbrev PI := (PV × PV) × (Bool × Bool)
def recC (p : PC) : List Value := recV p.1 ++ [.bool p.2]
def recS (p : PS) : List Value := recC p.1 ++ recC p.2
def recI (p : PI) : List Value := recV p.1.1 ++ recV p.1.2 ++ [.bool p.2.1, .bool p.2.2]
theorem recC_length (p : PC) : (recC p).length = 6 := rfl
theorem recS_length (p : PS) : (recS p).length = 12 := rfl
theorem recI_length (p : PI) : (recI p).length = 12 := rfl
theorem recS_one (p : PS) : ∀ u ∈ recS p, u.oneCell' = true := by simp [recS, recC, recV, VC.list, Value.oneCell']
theorem recI_one (p : PI) : ∀ u ∈ recI p, u.oneCell' = true := by simp [recI, recV, VC.list, Value.oneCell']
def cutP (p : PC) : Cut := (p.1.2, p.2)
def spP (p : PS) : Cut × Cut := (cutP p.1, cutP p.2)
def ivP (p : PI) : Iv := ⟨p.1.1.2, p.1.2.2, p.2.1, p.2.2⟩
/-- the span of an interval in memory -/
def spanP (p : PI) : PS := ((p.1.1, !p.2.1), (p.1.2, p.2.2))
theorem spanP_sp (p : PI) : spP (spanP p) = (ivP p).sp := rfl
abbrev aggC (p : PC) : Value := .agg #[.int .i64 p.1.1.k, .int .i64 p.1.1.n, .string p.1.1.t, .slice p.1.1.LA p.1.1.ln p.1.1.lc, .slice p.1.1.DA p.1.1.dn p.1.1.dc, .bool p.2]
abbrev aggS (p : PS) : Value := .agg #[.int .i64 p.1.1.1.k, .int .i64 p.1.1.1.n, .string p.1.1.1.t, .slice p.1.1.1.LA p.1.1.1.ln p.1.1.1.lc, .slice p.1.1.1.DA p.1.1.1.dn p.1.1.1.dc, .bool p.1.2, .int .i64 p.2.1.1.k, .int .i64 p.2.1.1.n, .string p.2.1.1.t, .slice p.2.1.1.LA p.2.1.1.ln p.2.1.1.lc, .slice p.2.1.1.DA p.2.1.1.dn p.2.1.1.dc, .bool p.2.2]
abbrev aggI (p : PI) : Value := .agg #[.int .i64 p.1.1.1.k, .int .i64 p.1.1.1.n, .string p.1.1.1.t, .slice p.1.1.1.LA p.1.1.1.ln p.1.1.1.lc, .slice p.1.1.1.DA p.1.1.1.dn p.1.1.1.dc, .int .i64 p.1.2.1.k, .int .i64 p.1.2.1.n, .string p.1.2.1.t, .slice p.1.2.1.LA p.1.2.1.ln p.1.2.1.lc, .slice p.1.2.1.DA p.1.2.1.dn p.1.2.1.dc, .bool p.2.1, .bool p.2.2]
abbrev arrC (p : PC) : Array Value := #[.int .i64 p.1.1.k, .int .i64 p.1.1.n, .string p.1.1.t, .slice p.1.1.LA p.1.1.ln p.1.1.lc, .slice p.1.1.DA p.1.1.dn p.1.1.dc, .bool p.2]
abbrev arrS (p : PS) : Array Value := #[.int .i64 p.1.1.1.k, .int .i64 p.1.1.1.n, .string p.1.1.1.t, .slice p.1.1.1.LA p.1.1.1.ln p.1.1.1.lc, .slice p.1.1.1.DA p.1.1.1.dn p.1.1.1.dc, .bool p.1.2, .int .i64 p.2.1.1.k, .int .i64 p.2.1.1.n, .string p.2.1.1.t, .slice p.2.1.1.LA p.2.1.1.ln p.2.1.1.lc, .slice p.2.1.1.DA p.2.1.1.dn p.2.1.1.dc, .bool p.2.2]
abbrev arrI (p : PI) : Array Value := #[.int .i64 p.1.1.1.k, .int .i64 p.1.1.1.n, .string p.1.1.1.t, .slice p.1.1.1.LA p.1.1.1.ln p.1.1.1.lc, .slice p.1.1.1.DA p.1.1.1.dn p.1.1.1.dc, .int .i64 p.1.2.1.k, .int .i64 p.1.2.1.n, .string p.1.2.1.t, .slice p.1.2.1.LA p.1.2.1.ln p.1.2.1.lc, .slice p.1.2.1.DA p.1.2.1.dn p.1.2.1.dc, .bool p.2.1, .bool p.2.2]
/-- a cut lies at an address -/
def CAt (w : World) (b off : Nat) (p : PC) : Prop := VAt w b off p.1.1 ∧ w.cell? ⟨b, off + 5, none⟩ = some (.bool p.2)
def SAt (w : World) (b off : Nat) (p : PS) : Prop := CAt w b off p.1 ∧ CAt w b (off + 6) p.2
def IAt (w : World) (b off : Nat) (p : PI) : Prop := VAt w b off p.1.1.1 ∧ VAt w b (off + 5) p.1.2.1 ∧ w.cell? ⟨b, off + 10, none⟩ = some (.bool p.2.1) ∧ w.cell? ⟨b, off + 11, none⟩ = some (.bool p.2.2)
section
variable {w w' : World} {b off : Nat}
theorem cat_of {p : PC} (h : ∀ (j : Nat) (v : Value), (recC p)[j]? = some v → w.cell? ⟨b, off + j, none⟩ = some v) : CAt w b off p :=
  ⟨⟨h 0 _ rfl, h 1 _ rfl, h 2 _ rfl, h 3 _ rfl, h 4 _ rfl⟩, h 5 _ rfl⟩
theorem sat_of {p : PS} (h : ∀ (j : Nat) (v : Value), (recS p)[j]? = some v → w.cell? ⟨b, off + j, none⟩ = some v) : SAt w b off p :=
  ⟨⟨⟨h 0 _ rfl, h 1 _ rfl, h 2 _ rfl, h 3 _ rfl, h 4 _ rfl⟩, h 5 _ rfl⟩, ⟨⟨h 6 _ rfl, h 7 _ rfl, h 8 _ rfl, h 9 _ rfl, h 10 _ rfl⟩, h 11 _ rfl⟩⟩
theorem iat_of {p : PI} (h : ∀ (j : Nat) (v : Value), (recI p)[j]? = some v → w.cell? ⟨b, off + j, none⟩ = some v) : IAt w b off p :=
  ⟨⟨h 0 _ rfl, h 1 _ rfl, h 2 _ rfl, h 3 _ rfl, h 4 _ rfl⟩, ⟨h 5 _ rfl, h 6 _ rfl, h 7 _ rfl, h 8 _ rfl, h 9 _ rfl⟩, h 10 _ rfl, h 11 _ rfl⟩
theorem CAt.of_blk {t : TypeId} {p : PC} (h : Blk w b t (arrC p)) : CAt w b 0 p := cat_of fun j v hj => by rw [Nat.zero_add, h.cell, ← Array.getElem?_toList]; exact hj
theorem SAt.of_blk {t : TypeId} {p : PS} (h : Blk w b t (arrS p)) : SAt w b 0 p := sat_of fun j v hj => by rw [Nat.zero_add, h.cell, ← Array.getElem?_toList]; exact hj
theorem IAt.of_blk {t : TypeId} {p : PI} (h : Blk w b t (arrI p)) : IAt w b 0 p := iat_of fun j v hj => by rw [Nat.zero_add, h.cell, ← Array.getElem?_toList]; exact hj
theorem CAt.keep {p : PC} (h : CAt w b off p) (hb : w'.heap[b]? = w.heap[b]?) : CAt w' b off p := ⟨h.1.keep hb, (World.cell?_of_block (w := w) (a := ⟨b, off + 5, none⟩) hb).trans h.2⟩
theorem SAt.keep {p : PS} (h : SAt w b off p) (hb : w'.heap[b]? = w.heap[b]?) : SAt w' b off p := ⟨h.1.keep hb, h.2.keep hb⟩
theorem IAt.keep {p : PI} (h : IAt w b off p) (hb : w'.heap[b]? = w.heap[b]?) : IAt w' b off p :=
  ⟨h.1.keep hb, h.2.1.keep hb, (World.cell?_of_block (w := w) (a := ⟨b, off + 10, none⟩) hb).trans h.2.2.1, (World.cell?_of_block (w := w) (a := ⟨b, off + 11, none⟩) hb).trans h.2.2.2⟩
end

def okC (w : World) (p : PC) : Prop := RW w p.1.1 p.1.2
def okS (w : World) (p : PS) : Prop := okC w p.1 ∧ okC w p.2
def okI (w : World) (p : PI) : Prop := RW w p.1.1.1 p.1.1.2 ∧ RW w p.1.2.1 p.1.2.2
section
variable {w w' : World}
theorem okC.step {p : PC} (h : okC w p) (hb : Below w.heap.size w w') : okC w' p := RV.step h hb
theorem okS.step {p : PS} (h : okS w p) (hb : Below w.heap.size w w') : okS w' p := ⟨h.1.step hb, h.2.step hb⟩
theorem okI.step {p : PI} (h : okI w p) (hb : Below w.heap.size w w') : okI w' p := ⟨h.1.step hb, h.2.step hb⟩
theorem okI.span {p : PI} (h : okI w p) : okS w (spanP p) := ⟨h.1, h.2⟩

/-- a slice of spans -/
structure SS (w : World) (A : Option Addr) (n c : Nat) (xs : List PS) : Prop where
  sr : SR 12 recS w A n c xs
  sz : n * 176 ≤ reach
  ok : ∀ x ∈ xs, okS w x
/-- a slice of intervals -/
structure SI (w : World) (A : Option Addr) (n c : Nat) (xs : List PI) : Prop where
  sr : SR 12 recI w A n c xs
  sz : n * 168 ≤ reach
  ok : ∀ x ∈ xs, okI w x
variable {A : Option Addr} {n c : Nat}
theorem SS.step {xs : List PS} (h : SS w A n c xs) (hb : Below w.heap.size w w') : SS w' A n c xs := ⟨h.sr.step hb, h.sz, fun x hx => (h.ok x hx).step hb⟩
theorem SI.step {xs : List PI} (h : SI w A n c xs) (hb : Below w.heap.size w w') : SI w' A n c xs := ⟨h.sr.step hb, h.sz, fun x hx => (h.ok x hx).step hb⟩
theorem SS.at {xs : List PS} (h : SS w A n c xs) {i : Nat} {p : PS} (hi : xs[i]? = some p) : ∃ b off, A = some ⟨b, off, none⟩ ∧ b < w.heap.size ∧ SAt w b (off + i * 12) p ∧ okS w p := by
  have hn : 0 < n := by have := (List.getElem?_eq_some_iff.1 hi).1; have := h.sr.ln; omega
  obtain ⟨b, off, e, hb, hel⟩ := h.sr.el hn
  exact ⟨b, off, e, hb, sat_of fun j v hj => hel i p hi j v hj, h.ok p (List.mem_of_getElem? hi)⟩
theorem SI.at {xs : List PI} (h : SI w A n c xs) {i : Nat} {p : PI} (hi : xs[i]? = some p) : ∃ b off, A = some ⟨b, off, none⟩ ∧ b < w.heap.size ∧ IAt w b (off + i * 12) p ∧ okI w p := by
  have hn : 0 < n := by have := (List.getElem?_eq_some_iff.1 hi).1; have := h.sr.ln; omega
  obtain ⟨b, off, e, hb, hel⟩ := h.sr.el hn
  exact ⟨b, off, e, hb, iat_of fun j v hj => hel i p hi j v hj, h.ok p (List.mem_of_getElem? hi)⟩
theorem SS.of_own {base : Nat} {t : TypeId} {v : Value} {xs : List PS} (h : w.ownsRow base t 12 v n (flat recS xs)) (hl : xs.length = n) (hz : n * 176 ≤ reach) (hr : ∀ p ∈ xs, okS w p) : ∃ A c, v = .slice A n c ∧ SS w A n c xs := by
  obtain ⟨A, c, rfl, hs⟩ := SR.of_own recS_length h hl
  exact ⟨A, c, rfl, hs, hz, hr⟩
theorem SI.of_own {base : Nat} {t : TypeId} {v : Value} {xs : List PI} (h : w.ownsRow base t 12 v n (flat recI xs)) (hl : xs.length = n) (hz : n * 168 ≤ reach) (hr : ∀ p ∈ xs, okI w p) : ∃ A c, v = .slice A n c ∧ SI w A n c xs := by
  obtain ⟨A, c, rfl, hs⟩ := SR.of_own recI_length h hl
  exact ⟨A, c, rfl, hs, hz, hr⟩
end
theorem info_span : (Tryd.prog.info? 54).map (fun i => (i.zero, i.size, i.bytes)) = some (some (aggS (((VC.zero, Val.zero), false), ((VC.zero, Val.zero), false))), 12, 176) := by kernel_rfl
theorem info_interval : (Tryd.prog.info? 37).map (fun i => (i.zero, i.size, i.bytes)) = some (some (aggI (((VC.zero, Val.zero), (VC.zero, Val.zero)), (false, false))), 12, 168) := by kernel_rfl

end Go.Proofs.YtdmabhbhlnpkgaaDoor
