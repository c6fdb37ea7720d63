/- Values of type api.Value in memory: five cells. -/
import Derived.Test.YtefolbfopjfbcaaKit
namespace Go.Proofs.Ytefolbfopjfbcaa
open Go.RowKit

/-- what the five cells of a Value hold -/
structure VC where
  k : Int
  n : Int
  t : ByteArray
  LA : Option Addr
  ln : Nat
  lc : Nat
  DA : Option Addr
  dn : Nat
  dc : Nat

abbrev VC.val (v : VC) : Value := .agg #[.int .i64 v.k, .int .i64 v.n, .string v.t, .slice v.LA v.ln v.lc, .slice v.DA v.dn v.dc]
abbrev VC.arr (v : VC) : Array Value := #[.int .i64 v.k, .int .i64 v.n, .string v.t, .slice v.LA v.ln v.lc, .slice v.DA v.dn v.dc]
def VC.list (c : VC) : List Value := [.int .i64 c.k, .int .i64 c.n, .string c.t, .slice c.LA c.ln c.lc, .slice c.DA c.dn c.dc]
def VC.zero : VC := ⟨0, 0, ByteArray.empty, none, 0, 0, none, 0, 0⟩

/-- a Value lies at an address -/
def VAt (w : World) (b off : Nat) (v : VC) : Prop :=
  w.cell? ⟨b, off, none⟩ = some (.int .i64 v.k) ∧ w.cell? ⟨b, off + 1, none⟩ = some (.int .i64 v.n) ∧ w.cell? ⟨b, off + 2, none⟩ = some (.string v.t) ∧
  w.cell? ⟨b, off + 3, none⟩ = some (.slice v.LA v.ln v.lc) ∧ w.cell? ⟨b, off + 4, none⟩ = some (.slice v.DA v.dn v.dc)

theorem VAt.lt {w : World} {b off : Nat} {v : VC} (h : VAt w b off v) : b < w.heap.size := World.block_lt_of_cell? w ⟨b, off, none⟩ h.1
theorem VAt.keep {w w' : World} {b off : Nat} {v : VC} (h : VAt w b off v) (hb : w'.heap[b]? = w.heap[b]?) : VAt w' b off v := by
  have e : ∀ o, w'.cell? ⟨b, o, none⟩ = w.cell? ⟨b, o, none⟩ := fun o => World.cell?_of_block (w := w) (a := ⟨b, o, none⟩) hb
  exact ⟨(e _).trans h.1, (e _).trans h.2.1, (e _).trans h.2.2.1, (e _).trans h.2.2.2.1, (e _).trans h.2.2.2.2⟩
theorem VAt.step {w w' : World} {b off : Nat} {v : VC} (h : VAt w b off v) (hb : Below w.heap.size w w') : VAt w' b off v := h.keep (hb.block b h.lt)
theorem VAt.alloc {w : World} {b off : Nat} {v : VC} (h : VAt w b off v) (o : Obj) : VAt (w.alloc o) b off v := h.keep (Below.heap_alloc w o b h.lt)
theorem VAt.of_blk {w : World} {b : Nat} {t : TypeId} {v : VC} (h : Blk w b t v.arr) : VAt w b 0 v := by
  refine ⟨?_, ?_, ?_, ?_, ?_⟩ <;> rw [h.cell] <;> rfl

/-- five stores -/
abbrev setV (w : World) (b off : Nat) (v : VC) : World :=
  ((((w.setCell ⟨b, off, none⟩ (.int .i64 v.k)).setCell ⟨b, off + 1, none⟩ (.int .i64 v.n)).setCell ⟨b, off + 2, none⟩ (.string v.t)).setCell ⟨b, off + 3, none⟩ (.slice v.LA v.ln v.lc)).setCell ⟨b, off + 4, none⟩ (.slice v.DA v.dn v.dc)
theorem Blk.putV {w : World} {g : Nat} {t : TypeId} {u : VC} (h : Blk w g t u.arr) (v : VC) : Blk (setV w g 0 v) g t v.arr :=
  ((((h.set_ 0 _).set_ 1 _).set_ 2 _).set_ 3 _).set_ 4 _
theorem Blk.farV {w : World} {g : Nat} {t : TypeId} {cs : Array Value} (h : Blk w g t cs) {b : Nat} (hne : g ≠ b) (off : Nat) (v : VC) : Blk (setV w b off v) g t cs :=
  ((((h.far hne _).far hne _).far hne _).far hne _).far hne _
theorem below_setV {B : Nat} {a w : World} (h : Below B a w) {b : Nat} (hB : B ≤ b) (off : Nat) (v : VC) : Below B a (setV w b off v) :=
  ((((h.setCell hB _).setCell hB _).setCell hB _).setCell hB _).setCell hB _

theorem drop_of {α : Type} {l : List α} {i : Nat} {a : α} (h : l[i]? = some a) : l.drop i = a :: l.drop (i + 1) := by
  rw [List.drop_eq_getElem?_toList_append, h]; rfl
end Go.Proofs.Ytefolbfopjfbcaa
namespace Go.RowKit
theorem Below.step' {B : Nat} {W w1 w2 : World} (h : Below B W w1) (k : Below w1.heap.size w1 w2) (hB : B ≤ W.heap.size := by exact Nat.le_refl _) : Below B W w2 := h.trans (k.mono (Nat.le_trans hB h.size))
end Go.RowKit
namespace Go.Proofs.Ytefolbfopjfbcaa
open Go.RowKit

theorem addr_add (g off j : Nat) : (⟨g, off, none⟩ : Addr).add j = ⟨g, off + j, none⟩ := by
  unfold Addr.add
  split
  · rename_i h; subst h; rfl
  · rfl
/-- the cells of a block that was just made -/
theorem news_at (w : World) (t : TypeId) (l : List Value) : ∀ j u, l[j]? = some u → (w.alloc (.cells l.toArray t)).cell? ((⟨w.heap.size, 0, none⟩ : Addr).add j) = some u := by
  intro j u h
  rw [addr_add, Nat.zero_add, World.cell?_alloc_new]
  simpa using h

end Go.Proofs.Ytefolbfopjfbcaa
