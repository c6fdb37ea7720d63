/- The contract of value.clone. -/
import Derived.Test.YtckeccfbadlhhaaDoorValFind
import Derived.Deep.RegionHeld3
namespace Go.Proofs.YtckeccfbadlhhaaDoor
open Go.RowKit

/-- block g is a row of n cells of type t -/
def Row (w : World) (g : Nat) (t : TypeId) (n : Nat) : Prop := ∃ cs, Blk w g t cs ∧ cs.size = n
section
variable {w w' : World} {g : Nat} {t : TypeId} {n : Nat}
theorem Row.lt (h : Row w g t n) : g < w.heap.size := by obtain ⟨cs, hb, _⟩ := h; exact hb.lt
theorem Row.step (h : Row w g t n) (hb : Below w.heap.size w w') : Row w' g t n := by obtain ⟨cs, h1, h2⟩ := h; exact ⟨cs, h1.step hb, h2⟩
theorem Row.alloc (h : Row w g t n) (o : Obj) : Row (w.alloc o) g t n := by obtain ⟨cs, h1, h2⟩ := h; exact ⟨cs, h1.alloc o, h2⟩
theorem Row.set (h : Row w g t n) (b off : Nat) (u : Value) : Row (w.setCell ⟨b, off, none⟩ u) g t n := by
  obtain ⟨cs, h1, h2⟩ := h
  by_cases hp : g = b
  · subst hp
    exact ⟨cs.setIfInBounds off u, h1.set_ off u, by simpa using h2⟩
  · exact ⟨cs, h1.far hp u, h2⟩
theorem Row.putV (h : Row w g t n) (b off : Nat) (v : VC) : Row (setV w b off v) g t n := ((((h.set _ _ _).set _ _ _).set _ _ _).set _ _ _).set _ _ _
theorem Row.frozen (h : Row w g t n) (i : Nat) : w.frozen? ⟨g, i, none⟩ = false := by obtain ⟨cs, h1, _⟩ := h; exact h1.frozen i
theorem Row.cell (h : Row w g t n) {i : Nat} (hi : i < n) : ∃ v, w.cell? ⟨g, i, none⟩ = some v := by
  obtain ⟨cs, h1, h2⟩ := h
  rw [h1.cell, Array.getElem?_eq_getElem (by omega)]
  exact ⟨_, rfl⟩
theorem Row.same (h : Row w g t n) (hb : w'.heap[g]? = w.heap[g]?) : Row w' g t n := by obtain ⟨cs, h1, h2⟩ := h; exact ⟨cs, hb.trans h1, h2⟩
end

theorem addr_ne {b b' o o' : Nat} (h : b ≠ b' ∨ o ≠ o') : (⟨b, o, none⟩ : Addr) ≠ ⟨b', o', none⟩ := by
  intro e
  injection e with e1 e2
  omega
theorem cell_setV_far {w : World} {b off b' o : Nat} {v : VC} (h : b' ≠ b ∨ o < off ∨ off + 5 ≤ o) : (setV w b off v).cell? ⟨b', o, none⟩ = w.cell? ⟨b', o, none⟩ := by
  unfold setV
  rw [World.cell?_setCell_other _ _ _ _ (addr_ne (by omega)), World.cell?_setCell_other _ _ _ _ (addr_ne (by omega)), World.cell?_setCell_other _ _ _ _ (addr_ne (by omega)), World.cell?_setCell_other _ _ _ _ (addr_ne (by omega)), World.cell?_setCell_other _ _ _ _ (addr_ne (by omega))]
theorem VAt.setV_far {w : World} {b off b' o : Nat} {v u : VC} (h : VAt w b' o u) (hne : b' ≠ b ∨ o + 5 ≤ off ∨ off + 5 ≤ o) : VAt (setV w b off v) b' o u := by
  obtain ⟨h0, h1, h2, h3, h4⟩ := h
  exact ⟨(cell_setV_far (by omega)).trans h0, (cell_setV_far (by omega)).trans h1, (cell_setV_far (by omega)).trans h2, (cell_setV_far (by omega)).trans h3, (cell_setV_far (by omega)).trans h4⟩
theorem VAt.of_setV {w : World} {b off : Nat} {v : VC} (h : ∀ k, k < 5 → ∃ u, w.cell? ⟨b, off + k, none⟩ = some u) : VAt (setV w b off v) b off v := by
  obtain ⟨u0, h0⟩ := h 0 (by omega)
  obtain ⟨u1, h1⟩ := h 1 (by omega)
  obtain ⟨u2, h2⟩ := h 2 (by omega)
  obtain ⟨u3, h3⟩ := h 3 (by omega)
  obtain ⟨u4, h4⟩ := h 4 (by omega)
  have o : ∀ {W : World} {x y : Nat} {z : Value}, x ≠ y → (W.setCell ⟨b, x, none⟩ z).cell? ⟨b, y, none⟩ = W.cell? ⟨b, y, none⟩ := fun hne => World.cell?_setCell_other _ _ _ _ (addr_ne (.inr hne))
  unfold setV
  refine ⟨?_, ?_, ?_, ?_, ?_⟩
  · rw [o (by omega), o (by omega), o (by omega), o (by omega)]
    exact World.cell?_setCell_same _ _ _ h0
  · rw [o (by omega), o (by omega), o (by omega)]
    exact World.cell?_setCell_same _ _ _ ((o (by omega)).trans h1)
  · rw [o (by omega), o (by omega)]
    exact World.cell?_setCell_same _ _ _ ((o (by omega)).trans ((o (by omega)).trans h2))
  · rw [o (by omega)]
    exact World.cell?_setCell_same _ _ _ ((o (by omega)).trans ((o (by omega)).trans ((o (by omega)).trans h3)))
  · exact World.cell?_setCell_same _ _ _ ((o (by omega)).trans ((o (by omega)).trans ((o (by omega)).trans ((o (by omega)).trans h4))))
theorem heap_setV {w : World} {b off : Nat} {v : VC} {g : Nat} (h : g ≠ b) : (setV w b off v).heap[g]? = w.heap[g]? := by
  unfold setV
  rw [Below.heap_setCell _ _ _ _ h, Below.heap_setCell _ _ _ _ h, Below.heap_setCell _ _ _ _ h, Below.heap_setCell _ _ _ _ h, Below.heap_setCell _ _ _ _ h]
theorem size_setV {w : World} {b off : Nat} {v : VC} : (setV w b off v).heap.size = w.heap.size := by simp [setV, World.setCell]

/-- a copy in new memory, from block lo on: the list's parts lie below block mid, the document's from there on -/
structure Cl (lo mid : Nat) (w : World) (c : VC) (x : Val) : Prop where
  k : c.k = x.k
  n : c.n = x.n
  t : c.t = x.t
  tsz : x.t.size ≤ reach
  ln : c.ln = x.l.length
  lc : c.lc = c.ln
  lsz : c.ln * 80 ≤ reach
  l0 : c.ln = 0 → c.LA = none
  la : 0 < c.ln → ∃ g, c.LA = some ⟨g, 0, none⟩ ∧ lo ≤ g ∧ g < mid ∧ Row w g 25 (c.ln * 5) ∧ ∀ (i : Nat) (y : Val), x.l[i]? = some y → ∃ e, VAt w g (i * 5) e ∧ RV (fun b => g < b ∧ b < mid) w e y
  hmid : lo ≤ mid
  dn : c.dn = x.d.length
  dc : c.dc = c.dn
  dsz : c.dn * 96 ≤ reach
  d0 : c.dn = 0 → c.DA = none
  da : 0 < c.dn → ∃ g, c.DA = some ⟨g, 0, none⟩ ∧ mid ≤ g ∧ Row w g 42 (c.dn * 6) ∧ ∀ (i : Nat) (f : Fld), x.d[i]? = some f → w.cell? ⟨g, i * 6, none⟩ = some (.string f.s) ∧ f.s.size ≤ reach ∧ ∃ e, VAt w g (i * 6 + 1) e ∧ RV (fun b => g < b) w e f.v
theorem Cl.rv {lo mid : Nat} {w : World} {c : VC} {x : Val} (h : Cl lo mid w c x) : RV (fun b => lo ≤ b) w c x := by
  refine RVs.shut ⟨h.k, h.n, h.t, h.tsz, h.ln, by have := h.lc; omega, h.lsz, fun h' => ?_, h.dn, by have := h.dc; omega, h.dsz, fun h' => ?_⟩
  · obtain ⟨g, e, h1, h2, _, hl⟩ := h.la h'
    refine ⟨g, 0, e, h1, fun i y hi => ?_⟩
    obtain ⟨u, hu, hr⟩ := hl i y hi
    exact ⟨u, by rw [Nat.zero_add]; exact hu, hr.mono fun b hb => by omega⟩
  · obtain ⟨g, e, h1, _, hl⟩ := h.da h'
    have hm := h.hmid
    refine ⟨g, 0, e, by omega, fun i y hi => ?_⟩
    obtain ⟨hs, hz, u, hu, hr⟩ := hl i y hi
    exact ⟨by rw [Nat.zero_add]; exact hs, hz, u, by rw [Nat.zero_add]; exact hu, hr.mono fun b hb => by omega⟩
def CloneOk (w : World) (x : Val) (e : Ending) (w' : World) : Prop := ∃ (c : VC) (mid : Nat), e = .returned c.val ∧ Cl w.heap.size mid w' c x ∧ Below w.heap.size w w'

theorem info_value : (Tryd.prog.info? 25).map (fun i => (i.zero, i.size, i.bytes)) = some (some VC.zero.val, 5, 80) := by kernel_rfl
theorem info_field : (Tryd.prog.info? 42).map (fun i => (i.zero, i.size, i.bytes)) = some (some (.agg (#[.string ByteArray.empty] ++ VC.zero.arr)), 6, 96) := by kernel_rfl

theorem run_make_rowN {P : Program} (t e : TypeId) (i : TypeInfo) (z : Value) (ht : P.underlying t = some (.slice e)) (hi : P.info? e = some i) (hz : i.zero = some z)
    (n : Nat) (hbytes : i.bytes * n ≤ 281474976710656) (h63 : n ≤ 9223372036854775807) (w : World) :
    (Instr.makeSlice t (.int .i64 (n : Int)) (.int .i64 (n : Int))).run P w = .ok (.slice (some ⟨w.heap.size, 0, none⟩) n n) (w.alloc (.cells (madeCells z.cells (n * i.size)) e)) := by
  have hb : (i.bytes : Int) * (n : Int) ≤ 281474976710656 := by
    have h : ((i.bytes * n : Nat) : Int) ≤ 281474976710656 := by omega
    rwa [Int.natCast_mul] at h
  have hr := run_make (P := P) w t e i z ht hi hz .i64 .i64 n n (by omega) (by omega) hb (by omega)
  simp only [Int.toNat_natCast] at hr
  exact hr

/-- r after the first half of clone -/
structure CSt (w : World) (c : VC) (x : Val) (wx : World) (r : VC) : Prop where
  b0 : Blk wx w.heap.size 25 c.arr
  b1 : Blk wx (w.heap.size + 1) 25 VC.zero.arr
  b2 : Blk wx (w.heap.size + 2) 25 r.arr
  bel : Below w.heap.size w wx
  e : r.k = c.k ∧ r.n = c.n ∧ r.t = c.t ∧ r.DA = none ∧ r.dn = 0 ∧ r.dc = 0 ∧ r.ln = c.ln ∧ r.lc = c.ln
  l0 : r.ln = 0 → r.LA = none
  la : 0 < r.ln → ∃ g, r.LA = some ⟨g, 0, none⟩ ∧ w.heap.size + 3 ≤ g ∧ Row wx g 25 (r.ln * 5) ∧ ∀ (i : Nat) (y : Val), x.l[i]? = some y → ∃ e, VAt wx g (i * 5) e ∧ RV (fun b => g < b) wx e y

end Go.Proofs.YtckeccfbadlhhaaDoor
namespace Go.RowKit
theorem Below.undrewN {B n : Nat} {a w : World} (h : Below B (a.drewN n) w) : Below B a w := ⟨h.os, h.tape, h.output, h.size, h.block⟩
end Go.RowKit
namespace Go.Proofs.YtckeccfbadlhhaaDoor
open Go.RowKit

/-- r in the first loop of clone, i elements done -/
structure CL (w : World) (c : VC) (l : List Val) (i : Nat) (wx : World) : Prop where
  b0 : Blk wx w.heap.size 25 c.arr
  b1 : Blk wx (w.heap.size + 1) 25 VC.zero.arr
  b2 : Blk wx (w.heap.size + 2) 25 (VC.arr ⟨c.k, c.n, c.t, some ⟨w.heap.size + 3, 0, none⟩, c.ln, c.ln, none, 0, 0⟩)
  row : Row wx (w.heap.size + 3) 25 (c.ln * 5)
  el : ∀ (j : Nat) (y : Val), j < i → l[j]? = some y → ∃ e, VAt wx (w.heap.size + 3) (j * 5) e ∧ RV (fun b => w.heap.size + 3 < b) wx e y
  bel : Below w.heap.size w wx
theorem RV.step' {F : Nat → Prop} {W w' : World} {c : VC} {x : Val} (h : RV (fun b => F b ∧ b < W.heap.size) W c x) (hb : Below W.heap.size W w') : RV F w' c x := h.keepG fun b hF _ => ⟨hF.1, hb.block b hF.2⟩
theorem CL.step {w wx w' : World} {c : VC} {l : List Val} {i : Nat} (h : CL w c l i wx) (hb : Below wx.heap.size wx w') : CL w c l i w' :=
  ⟨h.b0.step hb, h.b1.step hb, h.b2.step hb, h.row.step hb, fun j y hj hy => by obtain ⟨e, h1, h2⟩ := h.el j y hj hy; exact ⟨e, h1.step hb, h2.step hb⟩, h.bel.step' hb⟩
theorem CL.next {w wx : World} {c : VC} {l : List Val} {i : Nat} {y : Val} {u : VC} (h : CL w c l i wx) (hi : i < c.ln) (hy : l[i]? = some y) (hu : RV (fun b => w.heap.size + 3 < b) wx u y) :
    CL w c l (i + 1) (setV wx (w.heap.size + 3) (i * 5) u) := by
  have keep : ∀ {z : VC} {v : Val}, RV (fun b => w.heap.size + 3 < b) wx z v → RV (fun b => w.heap.size + 3 < b) (setV wx (w.heap.size + 3) (i * 5) u) z v := fun hr => hr.keep fun b hb => heap_setV (by omega)
  refine ⟨h.b0.farV (by omega) _ _, h.b1.farV (by omega) _ _, h.b2.farV (by omega) _ _, h.row.putV _ _ _, fun j z hj hz => ?_, below_setV h.bel (by omega) _ _⟩
  by_cases e : j = i
  · subst e
    obtain rfl : y = z := by have := hy.symm.trans hz; simpa using this
    exact ⟨u, VAt.of_setV fun q hq => h.row.cell (by omega), keep hu⟩
  · obtain ⟨e', h1, h2⟩ := h.el j z (by omega) hz
    exact ⟨e', h1.setV_far (by omega), keep h2⟩

theorem cell_setF_far {w : World} {b off b' o : Nat} {s : ByteArray} {v : VC} (h : b' ≠ b ∨ o < off ∨ off + 6 ≤ o) : (setV (w.setCell ⟨b, off, none⟩ (.string s)) b (off + 1) v).cell? ⟨b', o, none⟩ = w.cell? ⟨b', o, none⟩ := by
  rw [cell_setV_far (by omega), World.cell?_setCell_other _ _ _ _ (addr_ne (by omega))]
theorem VAt.setF_far {w : World} {b off b' o : Nat} {s : ByteArray} {v u : VC} (h : VAt w b' o u) (hne : b' ≠ b ∨ o + 5 ≤ off ∨ off + 6 ≤ o) : VAt (setV (w.setCell ⟨b, off, none⟩ (.string s)) b (off + 1) v) b' o u := by
  obtain ⟨h0, h1, h2, h3, h4⟩ := h
  exact ⟨(cell_setF_far (by omega)).trans h0, (cell_setF_far (by omega)).trans h1, (cell_setF_far (by omega)).trans h2, (cell_setF_far (by omega)).trans h3, (cell_setF_far (by omega)).trans h4⟩
theorem heap_setF {w : World} {b off : Nat} {s : ByteArray} {v : VC} {g : Nat} (h : g ≠ b) : (setV (w.setCell ⟨b, off, none⟩ (.string s)) b (off + 1) v).heap[g]? = w.heap[g]? := by
  rw [heap_setV h, Below.heap_setCell _ _ _ _ h]

/-- r in the second loop of clone, i fields done -/
structure CD (w : World) (c r : VC) (gd : Nat) (l : List Val) (d : List Fld) (i : Nat) (wx : World) : Prop where
  b0 : Blk wx w.heap.size 25 c.arr
  b1 : Blk wx (w.heap.size + 1) 25 VC.zero.arr
  b2 : Blk wx (w.heap.size + 2) 25 (VC.arr ⟨r.k, r.n, r.t, r.LA, r.ln, r.lc, some ⟨gd, 0, none⟩, c.dn, c.dn⟩)
  hgd : w.heap.size + 3 ≤ gd
  row : Row wx gd 42 (c.dn * 6)
  la : 0 < r.ln → ∃ g, r.LA = some ⟨g, 0, none⟩ ∧ w.heap.size + 3 ≤ g ∧ g < gd ∧ Row wx g 25 (r.ln * 5) ∧ ∀ (i : Nat) (y : Val), l[i]? = some y → ∃ e, VAt wx g (i * 5) e ∧ RV (fun b => g < b ∧ b < gd) wx e y
  el : ∀ (j : Nat) (f : Fld), j < i → d[j]? = some f → wx.cell? ⟨gd, j * 6, none⟩ = some (.string f.s) ∧ ∃ e, VAt wx gd (j * 6 + 1) e ∧ RV (fun b => gd < b) wx e f.v
  bel : Below w.heap.size w wx
theorem CD.step {w wx w' : World} {c r : VC} {gd : Nat} {l : List Val} {d : List Fld} {i : Nat} (h : CD w c r gd l d i wx) (hb : Below wx.heap.size wx w') : CD w c r gd l d i w' := by
  refine ⟨h.b0.step hb, h.b1.step hb, h.b2.step hb, h.hgd, h.row.step hb, fun hn => ?_, fun j f hj hf => ?_, h.bel.step' hb⟩
  · obtain ⟨g, h1, h2, h3, h4, h5⟩ := h.la hn
    refine ⟨g, h1, h2, h3, h4.step hb, fun i y hi => ?_⟩
    obtain ⟨e, k1, k2⟩ := h5 i y hi
    exact ⟨e, k1.step hb, k2.step hb⟩
  · obtain ⟨h1, e, h2, h3⟩ := h.el j f hj hf
    exact ⟨(hb.cell (p := ⟨gd, j * 6, none⟩) h.row.lt).trans h1, e, h2.step hb, h3.step hb⟩
theorem CD.next {w wx : World} {c r : VC} {gd : Nat} {l : List Val} {d : List Fld} {i : Nat} {f : Fld} {u : VC} (h : CD w c r gd l d i wx) (hi : i < c.dn) (hf : d[i]? = some f) (hu : RV (fun b => gd < b) wx u f.v) :
    CD w c r gd l d (i + 1) (setV (wx.setCell ⟨gd, i * 6, none⟩ (.string f.s)) gd (i * 6 + 1) u) := by
  have hg := h.hgd
  have keep : ∀ {F : Nat → Prop} {z : VC} {v : Val}, (∀ b, F b → b ≠ gd) → RV F wx z v → RV F (setV (wx.setCell ⟨gd, i * 6, none⟩ (.string f.s)) gd (i * 6 + 1) u) z v := fun hF hr => hr.keep fun b hb => heap_setF (hF b hb)
  refine ⟨(h.b0.far (p := ⟨gd, i * 6, none⟩) (by show w.heap.size ≠ gd; omega) _).farV (by omega) _ _, (h.b1.far (p := ⟨gd, i * 6, none⟩) (by show w.heap.size + 1 ≠ gd; omega) _).farV (by omega) _ _, (h.b2.far (p := ⟨gd, i * 6, none⟩) (by show w.heap.size + 2 ≠ gd; omega) _).farV (by omega) _ _, hg, (h.row.set _ _ _).putV _ _ _, fun hn => ?_, fun j z hj hz => ?_, below_setV (h.bel.setCell (p := ⟨gd, i * 6, none⟩) (by show w.heap.size ≤ gd; omega) _) (by omega) _ _⟩
  · obtain ⟨g, h1, h2, h3, h4, h5⟩ := h.la hn
    refine ⟨g, h1, h2, h3, (h4.set _ _ _).putV _ _ _, fun i y hi => ?_⟩
    obtain ⟨e, k1, k2⟩ := h5 i y hi
    exact ⟨e, k1.setF_far (by omega), keep (by intro b hb; omega) k2⟩
  · by_cases e : j = i
    · subst e
      obtain rfl : f = z := by have := hf.symm.trans hz; simpa using this
      obtain ⟨o, ho⟩ := h.row.cell (i := j * 6) (by omega)
      refine ⟨?_, u, VAt.of_setV fun q hq => (h.row.set gd (j * 6) (.string f.s)).cell (by omega), keep (by intro b hb; omega) hu⟩
      rw [cell_setV_far (by omega)]
      exact World.cell?_setCell_same _ _ _ ho
    · obtain ⟨h1, e', h2, h3⟩ := h.el j z (by omega) hz
      exact ⟨(cell_setF_far (by omega)).trans h1, e', h2.setF_far (by omega), keep (by intro b hb; omega) h3⟩

theorem CD.start {w wc : World} {ck cn : Int} {ct : ByteArray} {LA DA rLA : Option Addr} {ln lc dn dc : Nat} {k n : Int} {t : ByteArray} {l : List Val} {d : List Fld} {cs : Array Value} (h : CSt w ⟨ck, cn, ct, LA, ln, lc, DA, dn, dc⟩ (.mk k n t l d) wc ⟨ck, cn, ct, rLA, ln, ln, none, 0, 0⟩) :
    CD w ⟨ck, cn, ct, LA, ln, lc, DA, dn, dc⟩ ⟨ck, cn, ct, rLA, ln, ln, none, 0, 0⟩ wc.heap.size l d 0 ((wc.setCell ⟨w.heap.size + 2, 4, none⟩ (.slice (some ⟨wc.heap.size, 0, none⟩) dn dn)).alloc (Obj.cells (madeCells cs (dn * 6)) 42)) := by
  have hlt := h.b2.lt
  have hsz : (wc.setCell ⟨w.heap.size + 2, 4, none⟩ (.slice (some ⟨wc.heap.size, 0, none⟩) dn dn)).heap.size = wc.heap.size := by simp [World.setCell]
  refine ⟨(h.b0.far (p := ⟨w.heap.size + 2, 4, none⟩) (by show w.heap.size ≠ w.heap.size + 2; omega) _).alloc _, (h.b1.far (p := ⟨w.heap.size + 2, 4, none⟩) (by show w.heap.size + 1 ≠ w.heap.size + 2; omega) _).alloc _, (h.b2.set_ 4 _).alloc _, by omega, ⟨_, Blk.new_at hsz.symm, size_madeCells _ _⟩, fun hn => ?_, fun j f hj => by omega, ?_⟩
  · obtain ⟨g, h1, h2, h3, h4⟩ := h.la hn
    refine ⟨g, h1, h2, h3.lt, (h3.set _ _ _).alloc _, fun i y hi => ?_⟩
    obtain ⟨e, k1, k2⟩ := h4 i y hi
    have hk : ∀ q, q < wc.heap.size → q ≠ w.heap.size + 2 → ((wc.setCell ⟨w.heap.size + 2, 4, none⟩ (.slice (some ⟨wc.heap.size, 0, none⟩) dn dn)).alloc (Obj.cells (madeCells cs (dn * 6)) 42)).heap[q]? = wc.heap[q]? := fun q hq hne => by
      rw [Below.heap_alloc _ _ _ (by rw [hsz]; exact hq), Below.heap_setCell _ _ _ _ hne]
    refine ⟨e, k1.keep (hk g h3.lt (by omega)), k2.lt.keepG fun q hq _ => ⟨hq, hk q hq.2 (by omega)⟩⟩
  · exact (h.bel.setCell (p := ⟨w.heap.size + 2, 4, none⟩) (by show w.heap.size ≤ w.heap.size + 2; omega) _).alloc (by rw [hsz]; exact h.bel.size) _

/-- the world of clone ahead of its last statement -/
structure CE (w : World) (x : Val) (r : VC) (mid : Nat) (wx : World) : Prop where
  b1 : Blk wx (w.heap.size + 1) 25 VC.zero.arr
  b2 : Blk wx (w.heap.size + 2) 25 r.arr
  cl : Cl (w.heap.size + 3) mid wx r x
  bel : Below w.heap.size w wx

theorem CE.of_cd {w wx : World} {ck cn : Int} {ct : ByteArray} {LA DA rLA : Option Addr} {ln lc dn dc gd : Nat} {k n : Int} {t : ByteArray} {l : List Val} {d : List Fld}
    (h : CD w ⟨ck, cn, ct, LA, ln, lc, DA, dn, dc⟩ ⟨ck, cn, ct, rLA, ln, ln, none, 0, 0⟩ gd l d dn wx) (ho : RVs (fun _ => True) w ⟨ck, cn, ct, LA, ln, lc, DA, dn, dc⟩ (.mk k n t l d)) (hd : d.length ≤ dn) (hl0 : ln = 0 → rLA = none) (hd0 : 0 < dn) :
    CE w (.mk k n t l d) ⟨ck, cn, ct, rLA, ln, ln, some ⟨gd, 0, none⟩, dn, dn⟩ gd wx := by
  refine ⟨h.b1, h.b2, ⟨ho.k, ho.n, ho.t, ho.tsz, ho.ln, rfl, ho.lsz, hl0, h.la, h.hgd, ho.dn, rfl, ho.dsz, fun h0 => ?_, fun hp => ?_⟩, h.bel⟩
  · exact absurd h0 (by show dn ≠ 0; omega)
  · refine ⟨gd, rfl, Nat.le_refl _, h.row, fun i f hi => ?_⟩
    obtain ⟨h1, h2⟩ := h.el i f (by have := (List.getElem?_eq_some_iff.1 hi).1; simp only [Val.d] at this; omega) hi
    obtain ⟨b, off, _, _, hel⟩ := ho.da hp
    exact ⟨h1, (hel i f hi).2.1, h2⟩
theorem CE.of_cst {w wx : World} {ck cn : Int} {ct : ByteArray} {LA DA rLA : Option Addr} {ln lc dc : Nat} {x : Val}
    (h : CSt w ⟨ck, cn, ct, LA, ln, lc, DA, 0, dc⟩ x wx ⟨ck, cn, ct, rLA, ln, ln, none, 0, 0⟩) (ho : RVs (fun _ => True) w ⟨ck, cn, ct, LA, ln, lc, DA, 0, dc⟩ x) :
    CE w x ⟨ck, cn, ct, rLA, ln, ln, none, 0, 0⟩ wx.heap.size wx := by
  refine ⟨h.b1, h.b2, ⟨ho.k, ho.n, ho.t, ho.tsz, ho.ln, rfl, ho.lsz, h.l0, fun hn => ?_, ?_, ho.dn, rfl, ho.dsz, fun _ => rfl, fun hp => absurd hp (Nat.lt_irrefl 0)⟩, h.bel⟩
  · obtain ⟨g, h1, h2, h3, h4⟩ := h.la hn
    refine ⟨g, h1, h2, h3.lt, h3, fun i y hi => ?_⟩
    obtain ⟨e, k1, k2⟩ := h4 i y hi
    exact ⟨e, k1, k2.lt⟩
  · have := h.b2.lt
    omega
theorem Cl.keep {lo mid : Nat} {w w' : World} {c : VC} {x : Val} (h : Cl lo mid w c x) (hk : ∀ b, lo ≤ b → w'.heap[b]? = w.heap[b]?) : Cl lo mid w' c x := by
  refine ⟨h.k, h.n, h.t, h.tsz, h.ln, h.lc, h.lsz, h.l0, fun hn => ?_, h.hmid, h.dn, h.dc, h.dsz, h.d0, fun hn => ?_⟩
  · obtain ⟨g, h1, h2, h3, h4, h5⟩ := h.la hn
    refine ⟨g, h1, h2, h3, h4.same (hk g h2), fun i y hi => ?_⟩
    obtain ⟨e, k1, k2⟩ := h5 i y hi
    exact ⟨e, k1.keep (hk g h2), k2.keep fun b hb => hk b (by omega)⟩
  · obtain ⟨g, h1, h2, h3, h4⟩ := h.da hn
    have hm := h.hmid
    refine ⟨g, h1, h2, h3.same (hk g (by omega)), fun i f hi => ?_⟩
    obtain ⟨k0, kz, e, k1, k2⟩ := h4 i f hi
    exact ⟨(World.cell?_of_block (w := w) (a := ⟨g, i * 6, none⟩) (hk g (by omega))).trans k0, kz, e, k1.keep (hk g (by omega)), k2.keep fun b hb => hk b (by omega)⟩
theorem Cl.low {lo lo' mid : Nat} {w : World} {c : VC} {x : Val} (h : Cl lo mid w c x) (hl : lo' ≤ lo) : Cl lo' mid w c x := by
  refine ⟨h.k, h.n, h.t, h.tsz, h.ln, h.lc, h.lsz, h.l0, fun hn => ?_, by have := h.hmid; omega, h.dn, h.dc, h.dsz, h.d0, h.da⟩
  obtain ⟨g, h1, h2, h3, h4, h5⟩ := h.la hn
  exact ⟨g, h1, by omega, h3, h4, h5⟩
theorem CE.done {w wx : World} {x : Val} {r : VC} {mid : Nat} (h : CE w x r mid wx) : CloneOk w x (.returned r.val) (setV wx (w.heap.size + 1) 0 r) :=
  ⟨r, mid, rfl, (h.cl.keep fun b hb => heap_setV (by omega)).low (by omega), below_setV h.bel (by omega) _ _⟩
theorem results_val {fn : Func} {p : Tmp} (h : fn.results = #[.cell p 25]) (tmps : Array Value) (g1 off : Nat) (h1 : tmps[p]?.getD undef = .pointer (some ⟨g1, off, none⟩))
    (W : World) (v : VC) (q : VAt W g1 off v) :
    (results fn tmps).run Tryd.prog W = .ok v.val W := by
  obtain ⟨q0, q1, q2, q3, q4⟩ := q
  simp [results, h, h1, asAddr, go_sem, q0, q1, q2, q3, q4]

set_option maxRecDepth 100000 in
set_option maxHeartbeats 4000000 in
theorem clone_any (x : Val) : ∀ (c : VC) (w : World), RW w c x → Calls Tryd.prog 46 #[c.val] w (CloneOk w x) := by
  induction x using Val.ind with
  | h k n t l d ihl ihd =>
  intro c w h
  obtain ⟨ck, cn, ct, LA, ln, lc, DA, dn, dc⟩ := c
  obtain ⟨i0, hi0, hz0, hz1, hz2⟩ := info_parts info_value
  obtain ⟨j0, hj0, hy0, hy1, hy2⟩ := info_parts info_field
  have ho := h.open
  have hls : ln * 80 ≤ 140737488355328 := ho.lsz
  have hds : dn * 96 ≤ 140737488355328 := ho.dsz
  have hll : ln = l.length := ho.ln
  have hdl : dn = d.length := ho.dn
  have hmk := run_make_rowN (P := Tryd.prog) 22 25 i0 VC.zero.val Tryd.underlying22 hi0 hz0 ln (by rw [hz2]; omega) (by omega)
  have hmd := run_make_rowN (P := Tryd.prog) 23 42 j0 (.agg (#[.string ByteArray.empty] ++ VC.zero.arr)) Tryd.underlying23 hj0 hy0 dn (by rw [hy2]; omega) (by omega)
  rw [hz1] at hmk
  rw [hy1] at hmd
  have hln : ln ≤ 140737488355328 := by omega
  have hdn : dn ≤ 140737488355328 := by omega
  have HLL := Lib.hid hll
  have HDL := Lib.hid hdl
  clear hll hdl
  have HI := Lib.hid ihl
  have HJ := Lib.hid ihd
  have HO := Lib.hid ho
  clear ihl ihd ho h hi0 hz0 hz1 hz2 hj0 hy0 hy1 hy2
  go_enter Tryd.func46, Tryd.ntmps46
  go_upto_if 18 with fail
  go_cut [] (fun wx => ∃ r, CSt w ⟨ck, cn, ct, LA, ln, lc, DA, dn, dc⟩ (.mk k n t l d) wx r)
  case first =>
    by_cases hl0 : 0 < ln
    · obtain ⟨b, off, hLA, _, hel⟩ := HO.out.la hl0
      have hLA' : LA = some ⟨b, off, none⟩ := hLA
      subst hLA'
      have HEL := Lib.hid hel
      clear hLA hel
      have hd : decide (0 < ln) = true := by simpa using hl0
      rw [hd]
      clear hd
      go_wp2_with fail
      go_loopw [4, 5, 27] (fun v4 v5 v27 wr => ∃ i : Nat, i ≤ ln ∧ v27 = .int .i64 i ∧ CL w ⟨ck, cn, ct, some ⟨b, off, none⟩, ln, lc, DA, dn, dc⟩ l i wr) (fun _ _ v27 _ => ln - (intOf v27).toNat)
      case atStart =>
        refine ⟨0, Nat.zero_le _, rfl, ⟨((Blk.new_at rfl).alloc _).alloc _ |>.alloc _, ((Blk.new_at (by simp)).alloc _).alloc _, (Blk.new_at (by simp)).alloc _, ⟨_, Blk.new_at (by simp), size_madeCells _ _⟩, fun j y hj => by omega, ((((Below.refl _ _).alloc (Nat.le_refl _) _).alloc (by simp) _).alloc (by simp; omega) _).alloc (by simp; omega) _⟩⟩
      case round =>
        obtain ⟨i, hi, rfl, I⟩ := hrel
        have J := Lib.hid I
        by_cases hlt : i < ln
        · obtain ⟨y, hy⟩ : ∃ y, l[i]? = some y := ⟨_, List.getElem?_eq_getElem (by have := HLL.out; omega)⟩
          obtain ⟨u, hu, hr⟩ := HEL.out i y hy
          have hr' := hr.lt.step' I.bel
          obtain ⟨u0, u1, u2, u3, u4⟩ := hu.keep (I.bel.block b hu.lt)
          have HY := Lib.hid hy
          have HR := Lib.hid hr'
          have HC := Lib.hid (HI.out y (List.mem_of_getElem? hy))
          have hb : b < wr.heap.size := by have := hu.lt; have := I.bel.size; omega
          have r3 := I.b2.cell 3
          simp at r3
          clear hy hr hr' hu I hmk hmd
          go_wp2_with fail
          have K := J.out.step ((Below.refl wr.heap.size wr).alloc (Nat.le_refl _) (Obj.cells u.arr 25))
          have KB : Blk (wr.alloc (Obj.cells u.arr 25)) wr.heap.size 25 u.arr := Blk.new_at rfl
          have KR := HR.out.alloc (Obj.cells u.arr 25)
          clear HR u0 u1 u2 u3 u4 r3
          have hga : w.heap.size + 3 < wr.heap.size := J.out.row.lt
          generalize wr.alloc (Obj.cells u.arr 25) = wa at *
          generalize wr.heap.size = ga at *
          have hne : w.heap.size + 3 ≠ ga := by omega
          obtain ⟨u0, u1, u2, u3, u4⟩ := VAt.of_blk KB
          simp only [Nat.zero_add] at u1 u2 u3 u4
          have r3 := K.b2.cell 3
          simp at r3
          have LB := Lib.hid KB
          have LK := Lib.hid K
          have LR := Lib.hid KR
          clear KB K KR
          have hi0 : (0 : Int) ≤ (i : Int) := by omega
          have hi1 : (i : Int) < (ln : Int) := by omega
          go_region_held3 (fun w' => w'.cell? ⟨w.heap.size + 2, 3, none⟩ = some (.slice (some ⟨w.heap.size + 3, 0, none⟩) ln ln) ∧ w'.cell? ⟨ga, 0, none⟩ = some (.int .i64 u.k) ∧ w'.cell? ⟨ga, 1, none⟩ = some (.int .i64 u.n) ∧ w'.cell? ⟨ga, 2, none⟩ = some (.string u.t) ∧ w'.cell? ⟨ga, 3, none⟩ = some (.slice u.LA u.ln u.lc) ∧ w'.cell? ⟨ga, 4, none⟩ = some (.slice u.DA u.dn u.dc))
            (first | go_keep | exact ⟨s0, s1, s2, s3, s4, s5⟩ | ((try dsimp only); repeat' apply And.intro; all_goals go_keep))
            ((go_at_call 46; refine (HC.out u _ (LR.out.drewN 1)).mono ?_; rintro e w1 ⟨c', mid, rfl, hcl, hb1⟩; replace hb1 : Below wa.heap.size wa w1 := hb1.undrewN; replace hcl : Cl wa.heap.size mid w1 c' y := hcl; have s0 := (hb1.cell (p := ⟨w.heap.size + 2, 3, none⟩) LK.out.b2.lt).trans r3; have s1 := (hb1.cell (p := ⟨ga, 0, none⟩) LB.out.lt).trans u0; have s2 := (hb1.cell (p := ⟨ga, 1, none⟩) LB.out.lt).trans u1; have s3 := (hb1.cell (p := ⟨ga, 2, none⟩) LB.out.lt).trans u2; have s4 := (hb1.cell (p := ⟨ga, 3, none⟩) LB.out.lt).trans u3; have s5 := (hb1.cell (p := ⟨ga, 4, none⟩) LB.out.lt).trans u4; have row : Row w1 (w.heap.size + 3) 25 (ln * 5) := (LK.out.step hb1).row; have z := row.frozen; obtain ⟨o0, p0⟩ := row.cell (i := i * 5) (by omega); obtain ⟨o1, p1⟩ := row.cell (i := i * 5 + 1) (by omega); obtain ⟨o2, p2⟩ := row.cell (i := i * 5 + 2) (by omega); obtain ⟨o3, p3⟩ := row.cell (i := i * 5 + 3) (by omega); obtain ⟨o4, p4⟩ := row.cell (i := i * 5 + 4) (by omega); have LC := Lib.hid hcl; have LX := Lib.hid (LK.out.step hb1); clear hcl hb1 row))
          clear s0 s1 s2 s3 s4 s5 p0 p1 p2 p3 p4 z u0 u1 u2 u3 u4 r3
          go_wp2_with fail
          go_roundw
          case rel => exact ⟨i + 1, by omega, by go_num, LX.out.next hlt HY.out (LC.out.rv.mono fun q hq => by have := LK.out.row.lt; omega)⟩
          case measure => simp [intOf]; omega
        · obtain rfl : i = ln := by omega
          clear hmk hmd
          go_wp2_with fail
          go_meet
          exact ⟨_, I.b0, I.b1, I.b2, I.bel, ⟨rfl, rfl, rfl, rfl, rfl, rfl, rfl, rfl⟩, fun h => absurd h (by show i ≠ 0; omega), fun _ => ⟨w.heap.size + 3, rfl, Nat.le_refl _, I.row, fun j y hj => I.el j y (by have := (List.getElem?_eq_some_iff.1 hj).1; have := HLL.out; simp only [Val.l] at *; omega) hj⟩⟩
    · have hz : ln = 0 := by omega
      have hz' : decide ((0 : Int) < (ln : Int)) = false := by simp; omega
      subst hz
      clear hmk hmd
      go_wp2_with fail
      go_meet
      exact ⟨⟨ck, cn, ct, none, 0, 0, none, 0, 0⟩, ((Blk.new_at rfl).alloc _).alloc _, (Blk.new_at (by simp)).alloc _, Blk.new_at (by simp), (((Below.refl _ _).alloc (Nat.le_refl _) _).alloc (by simp) _).alloc (by simp; omega) _, ⟨rfl, rfl, rfl, rfl, rfl, rfl, rfl, rfl⟩, fun _ => rfl, fun h => absurd h (Nat.lt_irrefl 0)⟩
  case rest =>
    obtain ⟨r, I⟩ := hcut
    obtain ⟨rk, rn, rt, rLA, rln, rlc, rDA, rdn, rdc⟩ := r
    have he := I.e
    simp only at he
    obtain ⟨rfl, rfl, rfl, rfl, rfl, rfl, rfl, rfl⟩ := he
    have e4 := I.b0.cell 4
    simp at e4
    have J := Lib.hid I
    clear I hmk
    go_upto_if 42 with fail
    go_cut [] (fun wx => ∃ r mid, CE w (.mk k n t l d) r mid wx)
    case first =>
      by_cases hd0 : 0 < dn
      · obtain ⟨b, off, hDA, _, hel⟩ := HO.out.da hd0
        have hDA' : DA = some ⟨b, off, none⟩ := hDA
        subst hDA'
        have HEL := Lib.hid hel
        clear hDA hel
        have hd : decide (0 < dn) = true := by simpa using hd0
        rw [hd]
        clear hd
        have g0 := J.out.b2.cell 4
        have z0 := J.out.b2.frozen 4
        have l0 := J.out.b0.lt
        have l2 := J.out.b2.lt
        simp at g0
        go_wp2_with fail
        go_loopw [6, 7, 51] (fun v6 v7 v51 wr => ∃ i : Nat, i ≤ dn ∧ v51 = .int .i64 i ∧ CD w ⟨rk, rn, rt, LA, rlc, lc, some ⟨b, off, none⟩, dn, dc⟩ ⟨rk, rn, rt, rLA, rlc, rlc, none, 0, 0⟩ wc.heap.size l d i wr) (fun _ _ v51 _ => dn - (intOf v51).toNat)
        case atStart =>
          refine ⟨0, Nat.zero_le _, rfl, ?_⟩
          exact CD.start J.out
        case round =>
          obtain ⟨i, hi, rfl, I⟩ := hrel
          have J2 := Lib.hid I
          clear g0 z0 e4 hmd
          by_cases hlt : i < dn
          · obtain ⟨f, hf⟩ : ∃ f, d[i]? = some f := ⟨_, List.getElem?_eq_getElem (by have := HDL.out; omega)⟩
            obtain ⟨hs, hz, u, hu, hr⟩ := HEL.out i f hf
            have hr' := hr.lt.step' I.bel
            have s0 := (I.bel.cell (p := ⟨b, off + i * 6, none⟩) hu.lt).trans hs
            obtain ⟨u0, u1, u2, u3, u4⟩ := hu.keep (I.bel.block b hu.lt)
            have HY := Lib.hid hf
            have HR := Lib.hid hr'
            have HC := Lib.hid (HJ.out f (List.mem_of_getElem? hf))
            have hb : b < wr.heap.size := by have := hu.lt; have := I.bel.size; omega
            have r3 := I.b2.cell 4
            simp at r3
            clear hf hr hr' hu I hs hz
            go_wp2_with fail
            have K := J2.out.step ((Below.refl wr.heap.size wr).alloc (Nat.le_refl _) (Obj.cells #[.string f.s, .int .i64 u.k, .int .i64 u.n, .string u.t, .slice u.LA u.ln u.lc, .slice u.DA u.dn u.dc] 42))
            have KB : Blk (wr.alloc (Obj.cells #[.string f.s, .int .i64 u.k, .int .i64 u.n, .string u.t, .slice u.LA u.ln u.lc, .slice u.DA u.dn u.dc] 42)) wr.heap.size 42 #[.string f.s, .int .i64 u.k, .int .i64 u.n, .string u.t, .slice u.LA u.ln u.lc, .slice u.DA u.dn u.dc] := Blk.new_at rfl
            have KR := HR.out.alloc (Obj.cells #[.string f.s, .int .i64 u.k, .int .i64 u.n, .string u.t, .slice u.LA u.ln u.lc, .slice u.DA u.dn u.dc] 42)
            have hga : wc.heap.size < wr.heap.size := J2.out.row.lt
            clear HR u0 u1 u2 u3 u4 r3 s0
            generalize wr.alloc (Obj.cells #[.string f.s, .int .i64 u.k, .int .i64 u.n, .string u.t, .slice u.LA u.ln u.lc, .slice u.DA u.dn u.dc] 42) = wa at *
            generalize wr.heap.size = ga at *
            have hne : wc.heap.size ≠ ga := by omega
            have hne2 : wc.heap.size ≠ w.heap.size + 2 := by omega
            have f0 := KB.cell 0
            have f1 := KB.cell 1
            have f2 := KB.cell 2
            have f3 := KB.cell 3
            have f4 := KB.cell 4
            have f5 := KB.cell 5
            have r3 := K.b2.cell 4
            simp at r3 f0 f1 f2 f3 f4 f5
            have LB := Lib.hid KB
            have LK := Lib.hid K
            have LR := Lib.hid KR
            clear KB K KR
            have hi0 : (0 : Int) ≤ (i : Int) := by omega
            have hi1 : (i : Int) < (dn : Int) := by omega
            go_region_held3 (fun w' => w'.cell? ⟨w.heap.size + 2, 4, none⟩ = some (.slice (some ⟨wc.heap.size, 0, none⟩) dn dn) ∧ w'.cell? ⟨ga, 0, none⟩ = some (.string f.s) ∧ w'.cell? ⟨ga, 1, none⟩ = some (.int .i64 u.k) ∧ w'.cell? ⟨ga, 2, none⟩ = some (.int .i64 u.n) ∧ w'.cell? ⟨ga, 3, none⟩ = some (.string u.t) ∧ w'.cell? ⟨ga, 4, none⟩ = some (.slice u.LA u.ln u.lc) ∧ w'.cell? ⟨ga, 5, none⟩ = some (.slice u.DA u.dn u.dc))
              (first | go_keep | exact ⟨s0, s6, s1, s2, s3, s4, s5⟩ | ((try dsimp only); repeat' apply And.intro; all_goals go_keep))
              ((go_at_call 46; refine (HC.out u _ (LR.out.drewN 1)).mono ?_; rintro e w1 ⟨c', mid, rfl, hcl, hb1⟩; replace hb1 : Below wa.heap.size wa w1 := hb1.undrewN; replace hcl : Cl wa.heap.size mid w1 c' f.v := hcl; have s0 := (hb1.cell (p := ⟨w.heap.size + 2, 4, none⟩) LK.out.b2.lt).trans r3; have s6 := (hb1.cell (p := ⟨ga, 0, none⟩) LB.out.lt).trans f0; have s1 := (hb1.cell (p := ⟨ga, 1, none⟩) LB.out.lt).trans f1; have s2 := (hb1.cell (p := ⟨ga, 2, none⟩) LB.out.lt).trans f2; have s3 := (hb1.cell (p := ⟨ga, 3, none⟩) LB.out.lt).trans f3; have s4 := (hb1.cell (p := ⟨ga, 4, none⟩) LB.out.lt).trans f4; have s5 := (hb1.cell (p := ⟨ga, 5, none⟩) LB.out.lt).trans f5; have row : Row w1 wc.heap.size 42 (dn * 6) := (LK.out.step hb1).row; have z := row.frozen; obtain ⟨o0, p0⟩ := row.cell (i := i * 6) (by omega); obtain ⟨o1, p1⟩ := row.cell (i := i * 6 + 1) (by omega); obtain ⟨o2, p2⟩ := row.cell (i := i * 6 + 2) (by omega); obtain ⟨o3, p3⟩ := row.cell (i := i * 6 + 3) (by omega); obtain ⟨o4, p4⟩ := row.cell (i := i * 6 + 4) (by omega); obtain ⟨o5, p5⟩ := row.cell (i := i * 6 + 5) (by omega); have LC := Lib.hid hcl; have LX := Lib.hid (LK.out.step hb1); clear hcl hb1 row))
            clear s0 s1 s2 s3 s4 s5 s6 p0 p1 p2 p3 p4 p5 z f0 f1 f2 f3 f4 f5 r3
            go_wp2_with fail
            go_roundw
            case rel => exact ⟨i + 1, by omega, by go_num, LX.out.next hlt HY.out (LC.out.rv.mono fun q hq => by have := LK.out.row.lt; omega)⟩
            case measure => simp [intOf]; omega
          · obtain rfl : i = dn := by omega
            go_wp2_with fail
            go_meet
            exact ⟨_, wc.heap.size, CE.of_cd J2.out HO.out (by have := HDL.out; omega) J.out.l0 hd0⟩
      · have hz : dn = 0 := by omega
        subst hz
        clear hmd
        have hd : decide (0 < 0) = false := by decide
        rw [hd]
        clear hd
        go_wp2_with fail
        go_meet
        exact ⟨_, wc.heap.size, CE.of_cst J.out HO.out⟩
    case rest =>
      obtain ⟨r, mid, I⟩ := hcut
      have J3 := Lib.hid I
      obtain ⟨a0, a1, a2, a3, a4⟩ := VAt.of_blk I.b2
      obtain ⟨b0, b1, b2, b3, b4⟩ := VAt.of_blk I.b1
      have z := I.b1.frozen
      clear I e4 hmd
      go_wp2_with fail
      have q := VAt.of_blk (J3.out.b1.putV r)
      refine bodyPost_ret (results_val rfl _ _ _ rfl _ r q) rfl ?_
      exact CE.done J3.out

end Go.Proofs.YtckeccfbadlhhaaDoor
