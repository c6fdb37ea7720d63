/- Values in memory: rows, stores, copies. -/
import Derived.Test.YtefolbfopjfbcaaVal
import Derived.Deep.RegionHeld3
namespace Go.Proofs.Ytefolbfopjfbcaa
open Go.RowKit

/-- block g is a row of n cells of type t -/
def Row (w : World) (g : Nat) (t : TypeId) (n : Nat) : Prop := ∃ cs, Blk w g t cs ∧ cs.size = n
section
variable {w w' : World} {g : Nat} {t : TypeId} {n : Nat}
theorem Row.lt (h : Row w g t n) : g < w.heap.size := by obtain ⟨cs, hb, _⟩ := h; exact hb.lt
theorem Row.step (h : Row w g t n) (hb : Below w.heap.size w w') : Row w' g t n := by obtain ⟨cs, h1, h2⟩ := h; exact ⟨cs, h1.step hb, h2⟩
theorem Row.alloc (h : Row w g t n) (o : Obj) : Row (w.alloc o) g t n := by obtain ⟨cs, h1, h2⟩ := h; exact ⟨cs, h1.alloc o, h2⟩
theorem Row.set (h : Row w g t n) (b off : Nat) (u : Value) : Row (w.setCell ⟨b, off, none⟩ u) g t n := by
  obtain ⟨cs, h1, h2⟩ := h
  by_cases hp : g = b
  · subst hp
    exact ⟨cs.setIfInBounds off u, h1.set_ off u, by simpa using h2⟩
  · exact ⟨cs, h1.far hp u, h2⟩
theorem Row.putV (h : Row w g t n) (b off : Nat) (v : VC) : Row (setV w b off v) g t n := ((((h.set _ _ _).set _ _ _).set _ _ _).set _ _ _).set _ _ _
theorem Row.frozen (h : Row w g t n) (i : Nat) : w.frozen? ⟨g, i, none⟩ = false := by obtain ⟨cs, h1, _⟩ := h; exact h1.frozen i
theorem Row.cell (h : Row w g t n) {i : Nat} (hi : i < n) : ∃ v, w.cell? ⟨g, i, none⟩ = some v := by
  obtain ⟨cs, h1, h2⟩ := h
  rw [h1.cell, Array.getElem?_eq_getElem (by omega)]
  exact ⟨_, rfl⟩
theorem Row.same (h : Row w g t n) (hb : w'.heap[g]? = w.heap[g]?) : Row w' g t n := by obtain ⟨cs, h1, h2⟩ := h; exact ⟨cs, hb.trans h1, h2⟩
end

theorem addr_ne {b b' o o' : Nat} (h : b ≠ b' ∨ o ≠ o') : (⟨b, o, none⟩ : Addr) ≠ ⟨b', o', none⟩ := by
  intro e
  injection e with e1 e2
  omega
theorem cell_setV_far {w : World} {b off b' o : Nat} {v : VC} (h : b' ≠ b ∨ o < off ∨ off + 5 ≤ o) : (setV w b off v).cell? ⟨b', o, none⟩ = w.cell? ⟨b', o, none⟩ := by
  unfold setV
  rw [World.cell?_setCell_other _ _ _ _ (addr_ne (by omega)), World.cell?_setCell_other _ _ _ _ (addr_ne (by omega)), World.cell?_setCell_other _ _ _ _ (addr_ne (by omega)), World.cell?_setCell_other _ _ _ _ (addr_ne (by omega)), World.cell?_setCell_other _ _ _ _ (addr_ne (by omega))]
theorem VAt.setV_far {w : World} {b off b' o : Nat} {v u : VC} (h : VAt w b' o u) (hne : b' ≠ b ∨ o + 5 ≤ off ∨ off + 5 ≤ o) : VAt (setV w b off v) b' o u := by
  obtain ⟨h0, h1, h2, h3, h4⟩ := h
  exact ⟨(cell_setV_far (by omega)).trans h0, (cell_setV_far (by omega)).trans h1, (cell_setV_far (by omega)).trans h2, (cell_setV_far (by omega)).trans h3, (cell_setV_far (by omega)).trans h4⟩
theorem VAt.of_setV {w : World} {b off : Nat} {v : VC} (h : ∀ k, k < 5 → ∃ u, w.cell? ⟨b, off + k, none⟩ = some u) : VAt (setV w b off v) b off v := by
  obtain ⟨u0, h0⟩ := h 0 (by omega)
  obtain ⟨u1, h1⟩ := h 1 (by omega)
  obtain ⟨u2, h2⟩ := h 2 (by omega)
  obtain ⟨u3, h3⟩ := h 3 (by omega)
  obtain ⟨u4, h4⟩ := h 4 (by omega)
  have o : ∀ {W : World} {x y : Nat} {z : Value}, x ≠ y → (W.setCell ⟨b, x, none⟩ z).cell? ⟨b, y, none⟩ = W.cell? ⟨b, y, none⟩ := fun hne => World.cell?_setCell_other _ _ _ _ (addr_ne (.inr hne))
  unfold setV
  refine ⟨?_, ?_, ?_, ?_, ?_⟩
  · rw [o (by omega), o (by omega), o (by omega), o (by omega)]
    exact World.cell?_setCell_same _ _ _ h0
  · rw [o (by omega), o (by omega), o (by omega)]
    exact World.cell?_setCell_same _ _ _ ((o (by omega)).trans h1)
  · rw [o (by omega), o (by omega)]
    exact World.cell?_setCell_same _ _ _ ((o (by omega)).trans ((o (by omega)).trans h2))
  · rw [o (by omega)]
    exact World.cell?_setCell_same _ _ _ ((o (by omega)).trans ((o (by omega)).trans ((o (by omega)).trans h3)))
  · exact World.cell?_setCell_same _ _ _ ((o (by omega)).trans ((o (by omega)).trans ((o (by omega)).trans ((o (by omega)).trans h4))))
theorem heap_setV {w : World} {b off : Nat} {v : VC} {g : Nat} (h : g ≠ b) : (setV w b off v).heap[g]? = w.heap[g]? := by
  unfold setV
  rw [Below.heap_setCell _ _ _ _ h, Below.heap_setCell _ _ _ _ h, Below.heap_setCell _ _ _ _ h, Below.heap_setCell _ _ _ _ h, Below.heap_setCell _ _ _ _ h]
theorem size_setV {w : World} {b off : Nat} {v : VC} : (setV w b off v).heap.size = w.heap.size := by simp [setV, World.setCell]

/-- a copy in new memory, from block lo on: the list's parts lie below block mid, the document's from there on -/
structure Cl (lo mid : Nat) (w : World) (c : VC) (x : Val) : Prop where
  k : c.k = x.k
  n : c.n = x.n
  t : c.t = x.t
  tsz : x.t.size ≤ reach
  ln : c.ln = x.l.length
  lc : c.lc = c.ln
  lsz : c.ln * 80 ≤ reach
  l0 : c.ln = 0 → c.LA = none
  la : 0 < c.ln → ∃ g, c.LA = some ⟨g, 0, none⟩ ∧ lo ≤ g ∧ g < mid ∧ Row w g 25 (c.ln * 5) ∧ ∀ (i : Nat) (y : Val), x.l[i]? = some y → ∃ e, VAt w g (i * 5) e ∧ RV (fun b => g < b ∧ b < mid) w e y
  hmid : lo ≤ mid
  dn : c.dn = x.d.length
  dc : c.dc = c.dn
  dsz : c.dn * 96 ≤ reach
  d0 : c.dn = 0 → c.DA = none
  da : 0 < c.dn → ∃ g, c.DA = some ⟨g, 0, none⟩ ∧ mid ≤ g ∧ Row w g 67 (c.dn * 6) ∧ ∀ (i : Nat) (f : Fld), x.d[i]? = some f → w.cell? ⟨g, i * 6, none⟩ = some (.string f.s) ∧ f.s.size ≤ reach ∧ ∃ e, VAt w g (i * 6 + 1) e ∧ RV (fun b => g < b) w e f.v
theorem Cl.rv {lo mid : Nat} {w : World} {c : VC} {x : Val} (h : Cl lo mid w c x) : RV (fun b => lo ≤ b) w c x := by
  refine RVs.shut ⟨h.k, h.n, h.t, h.tsz, h.ln, by have := h.lc; omega, h.lsz, fun h' => ?_, h.dn, by have := h.dc; omega, h.dsz, fun h' => ?_⟩
  · obtain ⟨g, e, h1, h2, hrow, hl⟩ := h.la h'
    refine ⟨g, 0, e, ⟨h1, fun _ => hrow.frozen⟩, fun i y hi => ?_⟩
    obtain ⟨u, hu, hr⟩ := hl i y hi
    exact ⟨u, by rw [Nat.zero_add]; exact hu, hr.mono fun b hb => by omega⟩
  · obtain ⟨g, e, h1, hrow, hl⟩ := h.da h'
    have hm := h.hmid
    refine ⟨g, 0, e, ⟨by omega, fun _ => hrow.frozen⟩, fun i y hi => ?_⟩
    obtain ⟨hs, hz, u, hu, hr⟩ := hl i y hi
    exact ⟨by rw [Nat.zero_add]; exact hs, hz, u, by rw [Nat.zero_add]; exact hu, hr.mono fun b hb => by omega⟩
def CloneOk (w : World) (x : Val) (e : Ending) (w' : World) : Prop := ∃ (c : VC) (mid : Nat), e = .returned c.val ∧ Cl w.heap.size mid w' c x ∧ Below w.heap.size w w'

theorem info_value : (Try.prog.info? 25).map (fun i => (i.zero, i.size, i.bytes)) = some (some VC.zero.val, 5, 80) := by kernel_rfl
theorem info_field : (Try.prog.info? 67).map (fun i => (i.zero, i.size, i.bytes)) = some (some (.agg (#[.string ByteArray.empty] ++ VC.zero.arr)), 6, 96) := by kernel_rfl

theorem run_make_rowN {P : Program} (t e : TypeId) (i : TypeInfo) (z : Value) (ht : P.underlying t = some (.slice e)) (hi : P.info? e = some i) (hz : i.zero = some z)
    (n : Nat) (hbytes : i.bytes * n ≤ 281474976710656) (h63 : n ≤ 9223372036854775807) (w : World) :
    (Instr.makeSlice t (.int .i64 (n : Int)) (.int .i64 (n : Int))).run P w = .ok (.slice (some ⟨w.heap.size, 0, none⟩) n n) (w.alloc (.cells (madeCells z.cells (n * i.size)) e)) := by
  have hb : (i.bytes : Int) * (n : Int) ≤ 281474976710656 := by
    have h : ((i.bytes * n : Nat) : Int) ≤ 281474976710656 := by omega
    rwa [Int.natCast_mul] at h
  have hr := run_make (P := P) w t e i z ht hi hz .i64 .i64 n n (by omega) (by omega) hb (by omega)
  simp only [Int.toNat_natCast] at hr
  exact hr

/-- r after the first half of clone -/
structure CSt (w : World) (c : VC) (x : Val) (wx : World) (r : VC) : Prop where
  b0 : Blk wx w.heap.size 25 c.arr
  b1 : Blk wx (w.heap.size + 1) 25 VC.zero.arr
  b2 : Blk wx (w.heap.size + 2) 25 r.arr
  bel : Below w.heap.size w wx
  e : r.k = c.k ∧ r.n = c.n ∧ r.t = c.t ∧ r.DA = none ∧ r.dn = 0 ∧ r.dc = 0 ∧ r.ln = c.ln ∧ r.lc = c.ln
  l0 : r.ln = 0 → r.LA = none
  la : 0 < r.ln → ∃ g, r.LA = some ⟨g, 0, none⟩ ∧ w.heap.size + 3 ≤ g ∧ Row wx g 25 (r.ln * 5) ∧ ∀ (i : Nat) (y : Val), x.l[i]? = some y → ∃ e, VAt wx g (i * 5) e ∧ RV (fun b => g < b) wx e y

end Go.Proofs.Ytefolbfopjfbcaa
namespace Go.RowKit
theorem Below.undrewN {B n : Nat} {a w : World} (h : Below B (a.drewN n) w) : Below B a w := ⟨h.os, h.tape, h.output, h.size, h.block⟩
end Go.RowKit
namespace Go.Proofs.Ytefolbfopjfbcaa
open Go.RowKit

/-- r in the first loop of clone, i elements done -/
structure CL (w : World) (c : VC) (l : List Val) (i : Nat) (wx : World) : Prop where
  b0 : Blk wx w.heap.size 25 c.arr
  b1 : Blk wx (w.heap.size + 1) 25 VC.zero.arr
  b2 : Blk wx (w.heap.size + 2) 25 (VC.arr ⟨c.k, c.n, c.t, some ⟨w.heap.size + 3, 0, none⟩, c.ln, c.ln, none, 0, 0⟩)
  row : Row wx (w.heap.size + 3) 25 (c.ln * 5)
  el : ∀ (j : Nat) (y : Val), j < i → l[j]? = some y → ∃ e, VAt wx (w.heap.size + 3) (j * 5) e ∧ RV (fun b => w.heap.size + 3 < b) wx e y
  bel : Below w.heap.size w wx
theorem RV.step' {F : Nat → Prop} {W w' : World} {c : VC} {x : Val} (h : RV (fun b => F b ∧ b < W.heap.size) W c x) (hb : Below W.heap.size W w') : RV F w' c x := h.keepG fun b hF _ => ⟨hF.1, hb.block b hF.2⟩
theorem CL.step {w wx w' : World} {c : VC} {l : List Val} {i : Nat} (h : CL w c l i wx) (hb : Below wx.heap.size wx w') : CL w c l i w' :=
  ⟨h.b0.step hb, h.b1.step hb, h.b2.step hb, h.row.step hb, fun j y hj hy => by obtain ⟨e, h1, h2⟩ := h.el j y hj hy; exact ⟨e, h1.step hb, h2.step hb⟩, h.bel.step' hb⟩
theorem CL.next {w wx : World} {c : VC} {l : List Val} {i : Nat} {y : Val} {u : VC} (h : CL w c l i wx) (hi : i < c.ln) (hy : l[i]? = some y) (hu : RV (fun b => w.heap.size + 3 < b) wx u y) :
    CL w c l (i + 1) (setV wx (w.heap.size + 3) (i * 5) u) := by
  have keep : ∀ {z : VC} {v : Val}, RV (fun b => w.heap.size + 3 < b) wx z v → RV (fun b => w.heap.size + 3 < b) (setV wx (w.heap.size + 3) (i * 5) u) z v := fun hr => hr.keep fun b hb => heap_setV (by omega)
  refine ⟨h.b0.farV (by omega) _ _, h.b1.farV (by omega) _ _, h.b2.farV (by omega) _ _, h.row.putV _ _ _, fun j z hj hz => ?_, below_setV h.bel (by omega) _ _⟩
  by_cases e : j = i
  · subst e
    obtain rfl : y = z := by have := hy.symm.trans hz; simpa using this
    exact ⟨u, VAt.of_setV fun q hq => h.row.cell (by omega), keep hu⟩
  · obtain ⟨e', h1, h2⟩ := h.el j z (by omega) hz
    exact ⟨e', h1.setV_far (by omega), keep h2⟩

theorem cell_setF_far {w : World} {b off b' o : Nat} {s : ByteArray} {v : VC} (h : b' ≠ b ∨ o < off ∨ off + 6 ≤ o) : (setV (w.setCell ⟨b, off, none⟩ (.string s)) b (off + 1) v).cell? ⟨b', o, none⟩ = w.cell? ⟨b', o, none⟩ := by
  rw [cell_setV_far (by omega), World.cell?_setCell_other _ _ _ _ (addr_ne (by omega))]
theorem VAt.setF_far {w : World} {b off b' o : Nat} {s : ByteArray} {v u : VC} (h : VAt w b' o u) (hne : b' ≠ b ∨ o + 5 ≤ off ∨ off + 6 ≤ o) : VAt (setV (w.setCell ⟨b, off, none⟩ (.string s)) b (off + 1) v) b' o u := by
  obtain ⟨h0, h1, h2, h3, h4⟩ := h
  exact ⟨(cell_setF_far (by omega)).trans h0, (cell_setF_far (by omega)).trans h1, (cell_setF_far (by omega)).trans h2, (cell_setF_far (by omega)).trans h3, (cell_setF_far (by omega)).trans h4⟩
theorem heap_setF {w : World} {b off : Nat} {s : ByteArray} {v : VC} {g : Nat} (h : g ≠ b) : (setV (w.setCell ⟨b, off, none⟩ (.string s)) b (off + 1) v).heap[g]? = w.heap[g]? := by
  rw [heap_setV h, Below.heap_setCell _ _ _ _ h]

/-- r in the second loop of clone, i fields done -/
structure CD (w : World) (c r : VC) (gd : Nat) (l : List Val) (d : List Fld) (i : Nat) (wx : World) : Prop where
  b0 : Blk wx w.heap.size 25 c.arr
  b1 : Blk wx (w.heap.size + 1) 25 VC.zero.arr
  b2 : Blk wx (w.heap.size + 2) 25 (VC.arr ⟨r.k, r.n, r.t, r.LA, r.ln, r.lc, some ⟨gd, 0, none⟩, c.dn, c.dn⟩)
  hgd : w.heap.size + 3 ≤ gd
  row : Row wx gd 67 (c.dn * 6)
  la : 0 < r.ln → ∃ g, r.LA = some ⟨g, 0, none⟩ ∧ w.heap.size + 3 ≤ g ∧ g < gd ∧ Row wx g 25 (r.ln * 5) ∧ ∀ (i : Nat) (y : Val), l[i]? = some y → ∃ e, VAt wx g (i * 5) e ∧ RV (fun b => g < b ∧ b < gd) wx e y
  el : ∀ (j : Nat) (f : Fld), j < i → d[j]? = some f → wx.cell? ⟨gd, j * 6, none⟩ = some (.string f.s) ∧ ∃ e, VAt wx gd (j * 6 + 1) e ∧ RV (fun b => gd < b) wx e f.v
  bel : Below w.heap.size w wx
theorem CD.step {w wx w' : World} {c r : VC} {gd : Nat} {l : List Val} {d : List Fld} {i : Nat} (h : CD w c r gd l d i wx) (hb : Below wx.heap.size wx w') : CD w c r gd l d i w' := by
  refine ⟨h.b0.step hb, h.b1.step hb, h.b2.step hb, h.hgd, h.row.step hb, fun hn => ?_, fun j f hj hf => ?_, h.bel.step' hb⟩
  · obtain ⟨g, h1, h2, h3, h4, h5⟩ := h.la hn
    refine ⟨g, h1, h2, h3, h4.step hb, fun i y hi => ?_⟩
    obtain ⟨e, k1, k2⟩ := h5 i y hi
    exact ⟨e, k1.step hb, k2.step hb⟩
  · obtain ⟨h1, e, h2, h3⟩ := h.el j f hj hf
    exact ⟨(hb.cell (p := ⟨gd, j * 6, none⟩) h.row.lt).trans h1, e, h2.step hb, h3.step hb⟩
theorem CD.next {w wx : World} {c r : VC} {gd : Nat} {l : List Val} {d : List Fld} {i : Nat} {f : Fld} {u : VC} (h : CD w c r gd l d i wx) (hi : i < c.dn) (hf : d[i]? = some f) (hu : RV (fun b => gd < b) wx u f.v) :
    CD w c r gd l d (i + 1) (setV (wx.setCell ⟨gd, i * 6, none⟩ (.string f.s)) gd (i * 6 + 1) u) := by
  have hg := h.hgd
  have keep : ∀ {F : Nat → Prop} {z : VC} {v : Val}, (∀ b, F b → b ≠ gd) → RV F wx z v → RV F (setV (wx.setCell ⟨gd, i * 6, none⟩ (.string f.s)) gd (i * 6 + 1) u) z v := fun hF hr => hr.keep fun b hb => heap_setF (hF b hb)
  refine ⟨(h.b0.far (p := ⟨gd, i * 6, none⟩) (by show w.heap.size ≠ gd; omega) _).farV (by omega) _ _, (h.b1.far (p := ⟨gd, i * 6, none⟩) (by show w.heap.size + 1 ≠ gd; omega) _).farV (by omega) _ _, (h.b2.far (p := ⟨gd, i * 6, none⟩) (by show w.heap.size + 2 ≠ gd; omega) _).farV (by omega) _ _, hg, (h.row.set _ _ _).putV _ _ _, fun hn => ?_, fun j z hj hz => ?_, below_setV (h.bel.setCell (p := ⟨gd, i * 6, none⟩) (by show w.heap.size ≤ gd; omega) _) (by omega) _ _⟩
  · obtain ⟨g, h1, h2, h3, h4, h5⟩ := h.la hn
    refine ⟨g, h1, h2, h3, (h4.set _ _ _).putV _ _ _, fun i y hi => ?_⟩
    obtain ⟨e, k1, k2⟩ := h5 i y hi
    exact ⟨e, k1.setF_far (by omega), keep (by intro b hb; omega) k2⟩
  · by_cases e : j = i
    · subst e
      obtain rfl : f = z := by have := hf.symm.trans hz; simpa using this
      obtain ⟨o, ho⟩ := h.row.cell (i := j * 6) (by omega)
      refine ⟨?_, u, VAt.of_setV fun q hq => (h.row.set gd (j * 6) (.string f.s)).cell (by omega), keep (by intro b hb; omega) hu⟩
      rw [cell_setV_far (by omega)]
      exact World.cell?_setCell_same _ _ _ ho
    · obtain ⟨h1, e', h2, h3⟩ := h.el j z (by omega) hz
      exact ⟨(cell_setF_far (by omega)).trans h1, e', h2.setF_far (by omega), keep (by intro b hb; omega) h3⟩

theorem CD.start {w wc : World} {ck cn : Int} {ct : ByteArray} {LA DA rLA : Option Addr} {ln lc dn dc : Nat} {k n : Int} {t : ByteArray} {l : List Val} {d : List Fld} {cs : Array Value} (h : CSt w ⟨ck, cn, ct, LA, ln, lc, DA, dn, dc⟩ (.mk k n t l d) wc ⟨ck, cn, ct, rLA, ln, ln, none, 0, 0⟩) :
    CD w ⟨ck, cn, ct, LA, ln, lc, DA, dn, dc⟩ ⟨ck, cn, ct, rLA, ln, ln, none, 0, 0⟩ wc.heap.size l d 0 ((wc.setCell ⟨w.heap.size + 2, 4, none⟩ (.slice (some ⟨wc.heap.size, 0, none⟩) dn dn)).alloc (Obj.cells (madeCells cs (dn * 6)) 67)) := by
  have hlt := h.b2.lt
  have hsz : (wc.setCell ⟨w.heap.size + 2, 4, none⟩ (.slice (some ⟨wc.heap.size, 0, none⟩) dn dn)).heap.size = wc.heap.size := by simp [World.setCell]
  refine ⟨(h.b0.far (p := ⟨w.heap.size + 2, 4, none⟩) (by show w.heap.size ≠ w.heap.size + 2; omega) _).alloc _, (h.b1.far (p := ⟨w.heap.size + 2, 4, none⟩) (by show w.heap.size + 1 ≠ w.heap.size + 2; omega) _).alloc _, (h.b2.set_ 4 _).alloc _, by omega, ⟨_, Blk.new_at hsz.symm, size_madeCells _ _⟩, fun hn => ?_, fun j f hj => by omega, ?_⟩
  · obtain ⟨g, h1, h2, h3, h4⟩ := h.la hn
    refine ⟨g, h1, h2, h3.lt, (h3.set _ _ _).alloc _, fun i y hi => ?_⟩
    obtain ⟨e, k1, k2⟩ := h4 i y hi
    have hk : ∀ q, q < wc.heap.size → q ≠ w.heap.size + 2 → ((wc.setCell ⟨w.heap.size + 2, 4, none⟩ (.slice (some ⟨wc.heap.size, 0, none⟩) dn dn)).alloc (Obj.cells (madeCells cs (dn * 6)) 67)).heap[q]? = wc.heap[q]? := fun q hq hne => by
      rw [Below.heap_alloc _ _ _ (by rw [hsz]; exact hq), Below.heap_setCell _ _ _ _ hne]
    refine ⟨e, k1.keep (hk g h3.lt (by omega)), k2.lt.keepG fun q hq _ => ⟨hq, hk q hq.2 (by omega)⟩⟩
  · exact (h.bel.setCell (p := ⟨w.heap.size + 2, 4, none⟩) (by show w.heap.size ≤ w.heap.size + 2; omega) _).alloc (by rw [hsz]; exact h.bel.size) _

/-- the world of clone ahead of its last statement -/
structure CE (w : World) (x : Val) (r : VC) (mid : Nat) (wx : World) : Prop where
  b1 : Blk wx (w.heap.size + 1) 25 VC.zero.arr
  b2 : Blk wx (w.heap.size + 2) 25 r.arr
  cl : Cl (w.heap.size + 3) mid wx r x
  bel : Below w.heap.size w wx

theorem CE.of_cd {w wx : World} {ck cn : Int} {ct : ByteArray} {LA DA rLA : Option Addr} {ln lc dn dc gd : Nat} {k n : Int} {t : ByteArray} {l : List Val} {d : List Fld}
    (h : CD w ⟨ck, cn, ct, LA, ln, lc, DA, dn, dc⟩ ⟨ck, cn, ct, rLA, ln, ln, none, 0, 0⟩ gd l d dn wx) (ho : RVs (fun _ => True) w ⟨ck, cn, ct, LA, ln, lc, DA, dn, dc⟩ (.mk k n t l d)) (hd : d.length ≤ dn) (hl0 : ln = 0 → rLA = none) (hd0 : 0 < dn) :
    CE w (.mk k n t l d) ⟨ck, cn, ct, rLA, ln, ln, some ⟨gd, 0, none⟩, dn, dn⟩ gd wx := by
  refine ⟨h.b1, h.b2, ⟨ho.k, ho.n, ho.t, ho.tsz, ho.ln, rfl, ho.lsz, hl0, h.la, h.hgd, ho.dn, rfl, ho.dsz, fun h0 => ?_, fun hp => ?_⟩, h.bel⟩
  · exact absurd h0 (by show dn ≠ 0; omega)
  · refine ⟨gd, rfl, Nat.le_refl _, h.row, fun i f hi => ?_⟩
    obtain ⟨h1, h2⟩ := h.el i f (by have := (List.getElem?_eq_some_iff.1 hi).1; simp only [Val.d] at this; omega) hi
    obtain ⟨b, off, _, _, hel⟩ := ho.da hp
    exact ⟨h1, (hel i f hi).2.1, h2⟩
theorem CE.of_cst {w wx : World} {ck cn : Int} {ct : ByteArray} {LA DA rLA : Option Addr} {ln lc dc : Nat} {x : Val}
    (h : CSt w ⟨ck, cn, ct, LA, ln, lc, DA, 0, dc⟩ x wx ⟨ck, cn, ct, rLA, ln, ln, none, 0, 0⟩) (ho : RVs (fun _ => True) w ⟨ck, cn, ct, LA, ln, lc, DA, 0, dc⟩ x) :
    CE w x ⟨ck, cn, ct, rLA, ln, ln, none, 0, 0⟩ wx.heap.size wx := by
  refine ⟨h.b1, h.b2, ⟨ho.k, ho.n, ho.t, ho.tsz, ho.ln, rfl, ho.lsz, h.l0, fun hn => ?_, ?_, ho.dn, rfl, ho.dsz, fun _ => rfl, fun hp => absurd hp (Nat.lt_irrefl 0)⟩, h.bel⟩
  · obtain ⟨g, h1, h2, h3, h4⟩ := h.la hn
    refine ⟨g, h1, h2, h3.lt, h3, fun i y hi => ?_⟩
    obtain ⟨e, k1, k2⟩ := h4 i y hi
    exact ⟨e, k1, k2.lt⟩
  · have := h.b2.lt
    omega
theorem Cl.keep {lo mid : Nat} {w w' : World} {c : VC} {x : Val} (h : Cl lo mid w c x) (hk : ∀ b, lo ≤ b → w'.heap[b]? = w.heap[b]?) : Cl lo mid w' c x := by
  refine ⟨h.k, h.n, h.t, h.tsz, h.ln, h.lc, h.lsz, h.l0, fun hn => ?_, h.hmid, h.dn, h.dc, h.dsz, h.d0, fun hn => ?_⟩
  · obtain ⟨g, h1, h2, h3, h4, h5⟩ := h.la hn
    refine ⟨g, h1, h2, h3, h4.same (hk g h2), fun i y hi => ?_⟩
    obtain ⟨e, k1, k2⟩ := h5 i y hi
    exact ⟨e, k1.keep (hk g h2), k2.keep fun b hb => hk b (by omega)⟩
  · obtain ⟨g, h1, h2, h3, h4⟩ := h.da hn
    have hm := h.hmid
    refine ⟨g, h1, h2, h3.same (hk g (by omega)), fun i f hi => ?_⟩
    obtain ⟨k0, kz, e, k1, k2⟩ := h4 i f hi
    exact ⟨(World.cell?_of_block (w := w) (a := ⟨g, i * 6, none⟩) (hk g (by omega))).trans k0, kz, e, k1.keep (hk g (by omega)), k2.keep fun b hb => hk b (by omega)⟩
theorem Cl.low {lo lo' mid : Nat} {w : World} {c : VC} {x : Val} (h : Cl lo mid w c x) (hl : lo' ≤ lo) : Cl lo' mid w c x := by
  refine ⟨h.k, h.n, h.t, h.tsz, h.ln, h.lc, h.lsz, h.l0, fun hn => ?_, by have := h.hmid; omega, h.dn, h.dc, h.dsz, h.d0, h.da⟩
  obtain ⟨g, h1, h2, h3, h4, h5⟩ := h.la hn
  exact ⟨g, h1, by omega, h3, h4, h5⟩
theorem CE.done {w wx : World} {x : Val} {r : VC} {mid : Nat} (h : CE w x r mid wx) : CloneOk w x (.returned r.val) (setV wx (w.heap.size + 1) 0 r) :=
  ⟨r, mid, rfl, (h.cl.keep fun b hb => heap_setV (by omega)).low (by omega), below_setV h.bel (by omega) _ _⟩
theorem results_val {fn : Func} {p : Tmp} (h : fn.results = #[.cell p 25]) (tmps : Array Value) (g1 off : Nat) (h1 : tmps[p]?.getD undef = .pointer (some ⟨g1, off, none⟩))
    (W : World) (v : VC) (q : VAt W g1 off v) :
    (results fn tmps).run Try.prog W = .ok v.val W := by
  obtain ⟨q0, q1, q2, q3, q4⟩ := q
  simp [results, h, h1, asAddr, go_sem, q0, q1, q2, q3, q4]

end Go.Proofs.Ytefolbfopjfbcaa
