/- Parts of the proof, joined: ValMem, ValList, ValRows, ChRepA, PrRep, IvCut, IvAll, PrPure. -/
import Derived.Test.YtfkapannahcjiaaGreatDoorAp1
import Derived.Test.YtfkapannahcjiaaGreatDoorAp2
import Derived.Deep.RegionHeld3
/- Values in memory: rows, stores, copies. -/
namespace Go.Proofs.YtfkapannahcjiaaGreatDoor
open Go.RowKit

/-- block g is a row of n cells of type t -/
def Row (w : World) (g : Nat) (t : TypeId) (n : Nat) : Prop := ∃ cs, Blk w g t cs ∧ cs.size = n
section
variable {w w' : World} {g : Nat} {t : TypeId} {n : Nat}
theorem Row.lt (h : Row w g t n) : g < w.heap.size := by obtain ⟨cs, hb, _⟩ := h; exact hb.lt
theorem Row.step (h : Row w g t n) (hb : Below w.heap.size w w') : Row w' g t n := by obtain ⟨cs, h1, h2⟩ := h; exact ⟨cs, h1.step hb, h2⟩
theorem Row.alloc (h : Row w g t n) (o : Obj) : Row (w.alloc o) g t n := by obtain ⟨cs, h1, h2⟩ := h; exact ⟨cs, h1.alloc o, h2⟩
theorem Row.set (h : Row w g t n) (b off : Nat) (u : Value) : Row (w.setCell ⟨b, off, none⟩ u) g t n := by
  obtain ⟨cs, h1, h2⟩ := h
  by_cases hp : g = b
  · subst hp
    exact ⟨cs.setIfInBounds off u, h1.set_ off u, by simpa using h2⟩
  · exact ⟨cs, h1.far hp u, h2⟩
theorem Row.putV (h : Row w g t n) (b off : Nat) (v : VC) : Row (setV w b off v) g t n := ((((h.set _ _ _).set _ _ _).set _ _ _).set _ _ _).set _ _ _
theorem Row.frozen (h : Row w g t n) (i : Nat) : w.frozen? ⟨g, i, none⟩ = false := by obtain ⟨cs, h1, _⟩ := h; exact h1.frozen i
theorem Row.cell (h : Row w g t n) {i : Nat} (hi : i < n) : ∃ v, w.cell? ⟨g, i, none⟩ = some v := by
  obtain ⟨cs, h1, h2⟩ := h
  rw [h1.cell, Array.getElem?_eq_getElem (by omega)]
  exact ⟨_, rfl⟩
theorem Row.same (h : Row w g t n) (hb : w'.heap[g]? = w.heap[g]?) : Row w' g t n := by obtain ⟨cs, h1, h2⟩ := h; exact ⟨cs, hb.trans h1, h2⟩
end

theorem addr_ne {b b' o o' : Nat} (h : b ≠ b' ∨ o ≠ o') : (⟨b, o, none⟩ : Addr) ≠ ⟨b', o', none⟩ := by
  intro e
  injection e with e1 e2
  omega
theorem cell_setV_far {w : World} {b off b' o : Nat} {v : VC} (h : b' ≠ b ∨ o < off ∨ off + 5 ≤ o) : (setV w b off v).cell? ⟨b', o, none⟩ = w.cell? ⟨b', o, none⟩ := by
  unfold setV
  rw [World.cell?_setCell_other _ _ _ _ (addr_ne (by omega)), World.cell?_setCell_other _ _ _ _ (addr_ne (by omega)), World.cell?_setCell_other _ _ _ _ (addr_ne (by omega)), World.cell?_setCell_other _ _ _ _ (addr_ne (by omega)), World.cell?_setCell_other _ _ _ _ (addr_ne (by omega))]
theorem VAt.setV_far {w : World} {b off b' o : Nat} {v u : VC} (h : VAt w b' o u) (hne : b' ≠ b ∨ o + 5 ≤ off ∨ off + 5 ≤ o) : VAt (setV w b off v) b' o u := by
  obtain ⟨h0, h1, h2, h3, h4⟩ := h
  exact ⟨(cell_setV_far (by omega)).trans h0, (cell_setV_far (by omega)).trans h1, (cell_setV_far (by omega)).trans h2, (cell_setV_far (by omega)).trans h3, (cell_setV_far (by omega)).trans h4⟩
theorem VAt.of_setV {w : World} {b off : Nat} {v : VC} (h : ∀ k, k < 5 → ∃ u, w.cell? ⟨b, off + k, none⟩ = some u) : VAt (setV w b off v) b off v := by
  obtain ⟨u0, h0⟩ := h 0 (by omega)
  obtain ⟨u1, h1⟩ := h 1 (by omega)
  obtain ⟨u2, h2⟩ := h 2 (by omega)
  obtain ⟨u3, h3⟩ := h 3 (by omega)
  obtain ⟨u4, h4⟩ := h 4 (by omega)
  have o : ∀ {W : World} {x y : Nat} {z : Value}, x ≠ y → (W.setCell ⟨b, x, none⟩ z).cell? ⟨b, y, none⟩ = W.cell? ⟨b, y, none⟩ := fun hne => World.cell?_setCell_other _ _ _ _ (addr_ne (.inr hne))
  unfold setV
  refine ⟨?_, ?_, ?_, ?_, ?_⟩
  · rw [o (by omega), o (by omega), o (by omega), o (by omega)]
    exact World.cell?_setCell_same _ _ _ h0
  · rw [o (by omega), o (by omega), o (by omega)]
    exact World.cell?_setCell_same _ _ _ ((o (by omega)).trans h1)
  · rw [o (by omega), o (by omega)]
    exact World.cell?_setCell_same _ _ _ ((o (by omega)).trans ((o (by omega)).trans h2))
  · rw [o (by omega)]
    exact World.cell?_setCell_same _ _ _ ((o (by omega)).trans ((o (by omega)).trans ((o (by omega)).trans h3)))
  · exact World.cell?_setCell_same _ _ _ ((o (by omega)).trans ((o (by omega)).trans ((o (by omega)).trans ((o (by omega)).trans h4))))
theorem heap_setV {w : World} {b off : Nat} {v : VC} {g : Nat} (h : g ≠ b) : (setV w b off v).heap[g]? = w.heap[g]? := by
  unfold setV
  rw [Below.heap_setCell _ _ _ _ h, Below.heap_setCell _ _ _ _ h, Below.heap_setCell _ _ _ _ h, Below.heap_setCell _ _ _ _ h, Below.heap_setCell _ _ _ _ h]
/-- a copy in new memory, from block lo on: the list's parts lie below block mid, the document's from there on -/
structure Cl (lo mid : Nat) (w : World) (c : VC) (x : Val) : Prop where
  k : c.k = x.k
  n : c.n = x.n
  t : c.t = x.t
  tsz : x.t.size ≤ reach
  ln : c.ln = x.l.length
  lc : c.lc = c.ln
  lsz : c.ln * 80 ≤ reach
  l0 : c.ln = 0 → c.LA = none
  la : 0 < c.ln → ∃ g, c.LA = some ⟨g, 0, none⟩ ∧ lo ≤ g ∧ g < mid ∧ Row w g 29 (c.ln * 5) ∧ ∀ (i : Nat) (y : Val), x.l[i]? = some y → ∃ e, VAt w g (i * 5) e ∧ RV (fun b => g < b ∧ b < mid) w e y
  hmid : lo ≤ mid
  dn : c.dn = x.d.length
  dc : c.dc = c.dn
  dsz : c.dn * 96 ≤ reach
  d0 : c.dn = 0 → c.DA = none
  da : 0 < c.dn → ∃ g, c.DA = some ⟨g, 0, none⟩ ∧ mid ≤ g ∧ Row w g 59 (c.dn * 6) ∧ ∀ (i : Nat) (f : Fld), x.d[i]? = some f → w.cell? ⟨g, i * 6, none⟩ = some (.string f.s) ∧ f.s.size ≤ reach ∧ ∃ e, VAt w g (i * 6 + 1) e ∧ RV (fun b => g < b) w e f.v
theorem Cl.rv {lo mid : Nat} {w : World} {c : VC} {x : Val} (h : Cl lo mid w c x) : RV (fun b => lo ≤ b) w c x := by
  refine RVs.shut ⟨h.k, h.n, h.t, h.tsz, h.ln, by have := h.lc; omega, h.lsz, fun h' => ?_, h.dn, by have := h.dc; omega, h.dsz, fun h' => ?_⟩
  · obtain ⟨g, e, h1, h2, hrow, hl⟩ := h.la h'
    refine ⟨g, 0, e, ⟨h1, fun _ => hrow.frozen⟩, fun i y hi => ?_⟩
    obtain ⟨u, hu, hr⟩ := hl i y hi
    exact ⟨u, by rw [Nat.zero_add]; exact hu, hr.mono fun b hb => by omega⟩
  · obtain ⟨g, e, h1, hrow, hl⟩ := h.da h'
    have hm := h.hmid
    refine ⟨g, 0, e, ⟨by omega, fun _ => hrow.frozen⟩, fun i y hi => ?_⟩
    obtain ⟨hs, hz, u, hu, hr⟩ := hl i y hi
    exact ⟨by rw [Nat.zero_add]; exact hs, hz, u, by rw [Nat.zero_add]; exact hu, hr.mono fun b hb => by omega⟩
def CloneOk (w : World) (x : Val) (e : Ending) (w' : World) : Prop := ∃ (c : VC) (mid : Nat), e = .returned c.val ∧ Cl w.heap.size mid w' c x ∧ Below w.heap.size w w'

theorem info_value : (Tryz.prog.info? 29).map (fun i => (i.zero, i.size, i.bytes)) = some (some VC.zero.val, 5, 80) := by kernel_rfl
theorem info_field : (Tryz.prog.info? 59).map (fun i => (i.zero, i.size, i.bytes)) = some (some (.agg (#[.string ByteArray.empty] ++ VC.zero.arr)), 6, 96) := by kernel_rfl

theorem run_make_rowN {P : Program} (t e : TypeId) (i : TypeInfo) (z : Value) (ht : P.underlying t = some (.slice e)) (hi : P.info? e = some i) (hz : i.zero = some z)
    (n : Nat) (hbytes : i.bytes * n ≤ 281474976710656) (h63 : n ≤ 9223372036854775807) (w : World) :
    (Instr.makeSlice t (.int .i64 (n : Int)) (.int .i64 (n : Int))).run P w = .ok (.slice (some ⟨w.heap.size, 0, none⟩) n n) (w.alloc (.cells (madeCells z.cells (n * i.size)) e)) := by
  have hb : (i.bytes : Int) * (n : Int) ≤ 281474976710656 := by
    have h : ((i.bytes * n : Nat) : Int) ≤ 281474976710656 := by omega
    rwa [Int.natCast_mul] at h
  have hr := run_make (P := P) w t e i z ht hi hz .i64 .i64 n n (by omega) (by omega) hb (by omega)
  simp only [Int.toNat_natCast] at hr
  exact hr

/-- r after the first half of clone -/
structure CSt (w : World) (c : VC) (x : Val) (wx : World) (r : VC) : Prop where
  b0 : Blk wx w.heap.size 29 c.arr
  b1 : Blk wx (w.heap.size + 1) 29 VC.zero.arr
  b2 : Blk wx (w.heap.size + 2) 29 r.arr
  bel : Below w.heap.size w wx
  e : r.k = c.k ∧ r.n = c.n ∧ r.t = c.t ∧ r.DA = none ∧ r.dn = 0 ∧ r.dc = 0 ∧ r.ln = c.ln ∧ r.lc = c.ln
  l0 : r.ln = 0 → r.LA = none
  la : 0 < r.ln → ∃ g, r.LA = some ⟨g, 0, none⟩ ∧ w.heap.size + 3 ≤ g ∧ Row wx g 29 (r.ln * 5) ∧ ∀ (i : Nat) (y : Val), x.l[i]? = some y → ∃ e, VAt wx g (i * 5) e ∧ RV (fun b => g < b) wx e y

end Go.Proofs.YtfkapannahcjiaaGreatDoor
namespace Go.RowKit
theorem Below.undrewN {B n : Nat} {a w : World} (h : Below B (a.drewN n) w) : Below B a w := ⟨h.os, h.tape, h.output, h.size, h.block⟩
end Go.RowKit
namespace Go.Proofs.YtfkapannahcjiaaGreatDoor
open Go.RowKit

/-- r in the first loop of clone, i elements done -/
structure CL (w : World) (c : VC) (l : List Val) (i : Nat) (wx : World) : Prop where
  b0 : Blk wx w.heap.size 29 c.arr
  b1 : Blk wx (w.heap.size + 1) 29 VC.zero.arr
  b2 : Blk wx (w.heap.size + 2) 29 (VC.arr ⟨c.k, c.n, c.t, some ⟨w.heap.size + 3, 0, none⟩, c.ln, c.ln, none, 0, 0⟩)
  row : Row wx (w.heap.size + 3) 29 (c.ln * 5)
  el : ∀ (j : Nat) (y : Val), j < i → l[j]? = some y → ∃ e, VAt wx (w.heap.size + 3) (j * 5) e ∧ RV (fun b => w.heap.size + 3 < b) wx e y
  bel : Below w.heap.size w wx
theorem RV.step' {F : Nat → Prop} {W w' : World} {c : VC} {x : Val} (h : RV (fun b => F b ∧ b < W.heap.size) W c x) (hb : Below W.heap.size W w') : RV F w' c x := h.keepG fun b hF _ => ⟨hF.1, hb.block b hF.2⟩
theorem CL.step {w wx w' : World} {c : VC} {l : List Val} {i : Nat} (h : CL w c l i wx) (hb : Below wx.heap.size wx w') : CL w c l i w' :=
  ⟨h.b0.step hb, h.b1.step hb, h.b2.step hb, h.row.step hb, fun j y hj hy => by obtain ⟨e, h1, h2⟩ := h.el j y hj hy; exact ⟨e, h1.step hb, h2.step hb⟩, h.bel.step' hb⟩
theorem CL.next {w wx : World} {c : VC} {l : List Val} {i : Nat} {y : Val} {u : VC} (h : CL w c l i wx) (hi : i < c.ln) (hy : l[i]? = some y) (hu : RV (fun b => w.heap.size + 3 < b) wx u y) :
    CL w c l (i + 1) (setV wx (w.heap.size + 3) (i * 5) u) := by
  have keep : ∀ {z : VC} {v : Val}, RV (fun b => w.heap.size + 3 < b) wx z v → RV (fun b => w.heap.size + 3 < b) (setV wx (w.heap.size + 3) (i * 5) u) z v := fun hr => hr.keep fun b hb => heap_setV (by omega)
  refine ⟨h.b0.farV (by omega) _ _, h.b1.farV (by omega) _ _, h.b2.farV (by omega) _ _, h.row.putV _ _ _, fun j z hj hz => ?_, below_setV h.bel (by omega) _ _⟩
  by_cases e : j = i
  · subst e
    obtain rfl : y = z := by have := hy.symm.trans hz; simpa using this
    exact ⟨u, VAt.of_setV fun q hq => h.row.cell (by omega), keep hu⟩
  · obtain ⟨e', h1, h2⟩ := h.el j z (by omega) hz
    exact ⟨e', h1.setV_far (by omega), keep h2⟩

theorem cell_setF_far {w : World} {b off b' o : Nat} {s : ByteArray} {v : VC} (h : b' ≠ b ∨ o < off ∨ off + 6 ≤ o) : (setV (w.setCell ⟨b, off, none⟩ (.string s)) b (off + 1) v).cell? ⟨b', o, none⟩ = w.cell? ⟨b', o, none⟩ := by
  rw [cell_setV_far (by omega), World.cell?_setCell_other _ _ _ _ (addr_ne (by omega))]
theorem VAt.setF_far {w : World} {b off b' o : Nat} {s : ByteArray} {v u : VC} (h : VAt w b' o u) (hne : b' ≠ b ∨ o + 5 ≤ off ∨ off + 6 ≤ o) : VAt (setV (w.setCell ⟨b, off, none⟩ (.string s)) b (off + 1) v) b' o u := by
  obtain ⟨h0, h1, h2, h3, h4⟩ := h
  exact ⟨(cell_setF_far (by omega)).trans h0, (cell_setF_far (by omega)).trans h1, (cell_setF_far (by omega)).trans h2, (cell_setF_far (by omega)).trans h3, (cell_setF_far (by omega)).trans h4⟩
theorem heap_setF {w : World} {b off : Nat} {s : ByteArray} {v : VC} {g : Nat} (h : g ≠ b) : (setV (w.setCell ⟨b, off, none⟩ (.string s)) b (off + 1) v).heap[g]? = w.heap[g]? := by
  rw [heap_setV h, Below.heap_setCell _ _ _ _ h]

/-- r in the second loop of clone, i fields done -/
structure CD (w : World) (c r : VC) (gd : Nat) (l : List Val) (d : List Fld) (i : Nat) (wx : World) : Prop where
  b0 : Blk wx w.heap.size 29 c.arr
  b1 : Blk wx (w.heap.size + 1) 29 VC.zero.arr
  b2 : Blk wx (w.heap.size + 2) 29 (VC.arr ⟨r.k, r.n, r.t, r.LA, r.ln, r.lc, some ⟨gd, 0, none⟩, c.dn, c.dn⟩)
  hgd : w.heap.size + 3 ≤ gd
  row : Row wx gd 59 (c.dn * 6)
  la : 0 < r.ln → ∃ g, r.LA = some ⟨g, 0, none⟩ ∧ w.heap.size + 3 ≤ g ∧ g < gd ∧ Row wx g 29 (r.ln * 5) ∧ ∀ (i : Nat) (y : Val), l[i]? = some y → ∃ e, VAt wx g (i * 5) e ∧ RV (fun b => g < b ∧ b < gd) wx e y
  el : ∀ (j : Nat) (f : Fld), j < i → d[j]? = some f → wx.cell? ⟨gd, j * 6, none⟩ = some (.string f.s) ∧ ∃ e, VAt wx gd (j * 6 + 1) e ∧ RV (fun b => gd < b) wx e f.v
  bel : Below w.heap.size w wx
theorem CD.step {w wx w' : World} {c r : VC} {gd : Nat} {l : List Val} {d : List Fld} {i : Nat} (h : CD w c r gd l d i wx) (hb : Below wx.heap.size wx w') : CD w c r gd l d i w' := by
  refine ⟨h.b0.step hb, h.b1.step hb, h.b2.step hb, h.hgd, h.row.step hb, fun hn => ?_, fun j f hj hf => ?_, h.bel.step' hb⟩
  · obtain ⟨g, h1, h2, h3, h4, h5⟩ := h.la hn
    refine ⟨g, h1, h2, h3, h4.step hb, fun i y hi => ?_⟩
    obtain ⟨e, k1, k2⟩ := h5 i y hi
    exact ⟨e, k1.step hb, k2.step hb⟩
  · obtain ⟨h1, e, h2, h3⟩ := h.el j f hj hf
    exact ⟨(hb.cell (p := ⟨gd, j * 6, none⟩) h.row.lt).trans h1, e, h2.step hb, h3.step hb⟩
theorem CD.next {w wx : World} {c r : VC} {gd : Nat} {l : List Val} {d : List Fld} {i : Nat} {f : Fld} {u : VC} (h : CD w c r gd l d i wx) (hi : i < c.dn) (hf : d[i]? = some f) (hu : RV (fun b => gd < b) wx u f.v) :
    CD w c r gd l d (i + 1) (setV (wx.setCell ⟨gd, i * 6, none⟩ (.string f.s)) gd (i * 6 + 1) u) := by
  have hg := h.hgd
  have keep : ∀ {F : Nat → Prop} {z : VC} {v : Val}, (∀ b, F b → b ≠ gd) → RV F wx z v → RV F (setV (wx.setCell ⟨gd, i * 6, none⟩ (.string f.s)) gd (i * 6 + 1) u) z v := fun hF hr => hr.keep fun b hb => heap_setF (hF b hb)
  refine ⟨(h.b0.far (p := ⟨gd, i * 6, none⟩) (by show w.heap.size ≠ gd; omega) _).farV (by omega) _ _, (h.b1.far (p := ⟨gd, i * 6, none⟩) (by show w.heap.size + 1 ≠ gd; omega) _).farV (by omega) _ _, (h.b2.far (p := ⟨gd, i * 6, none⟩) (by show w.heap.size + 2 ≠ gd; omega) _).farV (by omega) _ _, hg, (h.row.set _ _ _).putV _ _ _, fun hn => ?_, fun j z hj hz => ?_, below_setV (h.bel.setCell (p := ⟨gd, i * 6, none⟩) (by show w.heap.size ≤ gd; omega) _) (by omega) _ _⟩
  · obtain ⟨g, h1, h2, h3, h4, h5⟩ := h.la hn
    refine ⟨g, h1, h2, h3, (h4.set _ _ _).putV _ _ _, fun i y hi => ?_⟩
    obtain ⟨e, k1, k2⟩ := h5 i y hi
    exact ⟨e, k1.setF_far (by omega), keep (by intro b hb; omega) k2⟩
  · by_cases e : j = i
    · subst e
      obtain rfl : f = z := by have := hf.symm.trans hz; simpa using this
      obtain ⟨o, ho⟩ := h.row.cell (i := j * 6) (by omega)
      refine ⟨?_, u, VAt.of_setV fun q hq => (h.row.set gd (j * 6) (.string f.s)).cell (by omega), keep (by intro b hb; omega) hu⟩
      rw [cell_setV_far (by omega)]
      exact World.cell?_setCell_same _ _ _ ho
    · obtain ⟨h1, e', h2, h3⟩ := h.el j z (by omega) hz
      exact ⟨(cell_setF_far (by omega)).trans h1, e', h2.setF_far (by omega), keep (by intro b hb; omega) h3⟩

theorem CD.start {w wc : World} {ck cn : Int} {ct : ByteArray} {LA DA rLA : Option Addr} {ln lc dn dc : Nat} {k n : Int} {t : ByteArray} {l : List Val} {d : List Fld} {cs : Array Value} (h : CSt w ⟨ck, cn, ct, LA, ln, lc, DA, dn, dc⟩ (.mk k n t l d) wc ⟨ck, cn, ct, rLA, ln, ln, none, 0, 0⟩) :
    CD w ⟨ck, cn, ct, LA, ln, lc, DA, dn, dc⟩ ⟨ck, cn, ct, rLA, ln, ln, none, 0, 0⟩ wc.heap.size l d 0 ((wc.setCell ⟨w.heap.size + 2, 4, none⟩ (.slice (some ⟨wc.heap.size, 0, none⟩) dn dn)).alloc (Obj.cells (madeCells cs (dn * 6)) 59)) := by
  have hlt := h.b2.lt
  have hsz : (wc.setCell ⟨w.heap.size + 2, 4, none⟩ (.slice (some ⟨wc.heap.size, 0, none⟩) dn dn)).heap.size = wc.heap.size := by simp [World.setCell]
  refine ⟨(h.b0.far (p := ⟨w.heap.size + 2, 4, none⟩) (by show w.heap.size ≠ w.heap.size + 2; omega) _).alloc _, (h.b1.far (p := ⟨w.heap.size + 2, 4, none⟩) (by show w.heap.size + 1 ≠ w.heap.size + 2; omega) _).alloc _, (h.b2.set_ 4 _).alloc _, by omega, ⟨_, Blk.new_at hsz.symm, size_madeCells _ _⟩, fun hn => ?_, fun j f hj => by omega, ?_⟩
  · obtain ⟨g, h1, h2, h3, h4⟩ := h.la hn
    refine ⟨g, h1, h2, h3.lt, (h3.set _ _ _).alloc _, fun i y hi => ?_⟩
    obtain ⟨e, k1, k2⟩ := h4 i y hi
    have hk : ∀ q, q < wc.heap.size → q ≠ w.heap.size + 2 → ((wc.setCell ⟨w.heap.size + 2, 4, none⟩ (.slice (some ⟨wc.heap.size, 0, none⟩) dn dn)).alloc (Obj.cells (madeCells cs (dn * 6)) 59)).heap[q]? = wc.heap[q]? := fun q hq hne => by
      rw [Below.heap_alloc _ _ _ (by rw [hsz]; exact hq), Below.heap_setCell _ _ _ _ hne]
    refine ⟨e, k1.keep (hk g h3.lt (by omega)), k2.lt.keepG fun q hq _ => ⟨hq, hk q hq.2 (by omega)⟩⟩
  · exact (h.bel.setCell (p := ⟨w.heap.size + 2, 4, none⟩) (by show w.heap.size ≤ w.heap.size + 2; omega) _).alloc (by rw [hsz]; exact h.bel.size) _

/-- the world of clone ahead of its last statement -/
structure CE (w : World) (x : Val) (r : VC) (mid : Nat) (wx : World) : Prop where
  b1 : Blk wx (w.heap.size + 1) 29 VC.zero.arr
  b2 : Blk wx (w.heap.size + 2) 29 r.arr
  cl : Cl (w.heap.size + 3) mid wx r x
  bel : Below w.heap.size w wx

theorem CE.of_cd {w wx : World} {ck cn : Int} {ct : ByteArray} {LA DA rLA : Option Addr} {ln lc dn dc gd : Nat} {k n : Int} {t : ByteArray} {l : List Val} {d : List Fld}
    (h : CD w ⟨ck, cn, ct, LA, ln, lc, DA, dn, dc⟩ ⟨ck, cn, ct, rLA, ln, ln, none, 0, 0⟩ gd l d dn wx) (ho : RVs (fun _ => True) w ⟨ck, cn, ct, LA, ln, lc, DA, dn, dc⟩ (.mk k n t l d)) (hd : d.length ≤ dn) (hl0 : ln = 0 → rLA = none) (hd0 : 0 < dn) :
    CE w (.mk k n t l d) ⟨ck, cn, ct, rLA, ln, ln, some ⟨gd, 0, none⟩, dn, dn⟩ gd wx := by
  refine ⟨h.b1, h.b2, ⟨ho.k, ho.n, ho.t, ho.tsz, ho.ln, rfl, ho.lsz, hl0, h.la, h.hgd, ho.dn, rfl, ho.dsz, fun h0 => ?_, fun hp => ?_⟩, h.bel⟩
  · exact absurd h0 (by show dn ≠ 0; omega)
  · refine ⟨gd, rfl, Nat.le_refl _, h.row, fun i f hi => ?_⟩
    obtain ⟨h1, h2⟩ := h.el i f (by have := (List.getElem?_eq_some_iff.1 hi).1; simp only [Val.d] at this; omega) hi
    obtain ⟨b, off, _, _, hel⟩ := ho.da hp
    exact ⟨h1, (hel i f hi).2.1, h2⟩
theorem CE.of_cst {w wx : World} {ck cn : Int} {ct : ByteArray} {LA DA rLA : Option Addr} {ln lc dc : Nat} {x : Val}
    (h : CSt w ⟨ck, cn, ct, LA, ln, lc, DA, 0, dc⟩ x wx ⟨ck, cn, ct, rLA, ln, ln, none, 0, 0⟩) (ho : RVs (fun _ => True) w ⟨ck, cn, ct, LA, ln, lc, DA, 0, dc⟩ x) :
    CE w x ⟨ck, cn, ct, rLA, ln, ln, none, 0, 0⟩ wx.heap.size wx := by
  refine ⟨h.b1, h.b2, ⟨ho.k, ho.n, ho.t, ho.tsz, ho.ln, rfl, ho.lsz, h.l0, fun hn => ?_, ?_, ho.dn, rfl, ho.dsz, fun _ => rfl, fun hp => absurd hp (Nat.lt_irrefl 0)⟩, h.bel⟩
  · obtain ⟨g, h1, h2, h3, h4⟩ := h.la hn
    refine ⟨g, h1, h2, h3.lt, h3, fun i y hi => ?_⟩
    obtain ⟨e, k1, k2⟩ := h4 i y hi
    exact ⟨e, k1, k2.lt⟩
  · have := h.b2.lt
    omega
theorem Cl.keep {lo mid : Nat} {w w' : World} {c : VC} {x : Val} (h : Cl lo mid w c x) (hk : ∀ b, lo ≤ b → w'.heap[b]? = w.heap[b]?) : Cl lo mid w' c x := by
  refine ⟨h.k, h.n, h.t, h.tsz, h.ln, h.lc, h.lsz, h.l0, fun hn => ?_, h.hmid, h.dn, h.dc, h.dsz, h.d0, fun hn => ?_⟩
  · obtain ⟨g, h1, h2, h3, h4, h5⟩ := h.la hn
    refine ⟨g, h1, h2, h3, h4.same (hk g h2), fun i y hi => ?_⟩
    obtain ⟨e, k1, k2⟩ := h5 i y hi
    exact ⟨e, k1.keep (hk g h2), k2.keep fun b hb => hk b (by omega)⟩
  · obtain ⟨g, h1, h2, h3, h4⟩ := h.da hn
    have hm := h.hmid
    refine ⟨g, h1, h2, h3.same (hk g (by omega)), fun i f hi => ?_⟩
    obtain ⟨k0, kz, e, k1, k2⟩ := h4 i f hi
    exact ⟨(World.cell?_of_block (w := w) (a := ⟨g, i * 6, none⟩) (hk g (by omega))).trans k0, kz, e, k1.keep (hk g (by omega)), k2.keep fun b hb => hk b (by omega)⟩
theorem Cl.low {lo lo' mid : Nat} {w : World} {c : VC} {x : Val} (h : Cl lo mid w c x) (hl : lo' ≤ lo) : Cl lo' mid w c x := by
  refine ⟨h.k, h.n, h.t, h.tsz, h.ln, h.lc, h.lsz, h.l0, fun hn => ?_, by have := h.hmid; omega, h.dn, h.dc, h.dsz, h.d0, h.da⟩
  obtain ⟨g, h1, h2, h3, h4, h5⟩ := h.la hn
  exact ⟨g, h1, by omega, h3, h4, h5⟩
theorem CE.done {w wx : World} {x : Val} {r : VC} {mid : Nat} (h : CE w x r mid wx) : CloneOk w x (.returned r.val) (setV wx (w.heap.size + 1) 0 r) :=
  ⟨r, mid, rfl, (h.cl.keep fun b hb => heap_setV (by omega)).low (by omega), below_setV h.bel (by omega) _ _⟩
theorem results_val {fn : Func} {p : Tmp} (h : fn.results = #[.cell p 29]) (tmps : Array Value) (g1 off : Nat) (h1 : tmps[p]?.getD undef = .pointer (some ⟨g1, off, none⟩))
    (W : World) (v : VC) (q : VAt W g1 off v) :
    (results fn tmps).run Tryz.prog W = .ok v.val W := by
  obtain ⟨q0, q1, q2, q3, q4⟩ := q
  simp [results, h, h1, asAddr, go_sem, q0, q1, q2, q3, q4]

end Go.Proofs.YtfkapannahcjiaaGreatDoor


/- Slices of values and of fields. -/
namespace Go.Proofs.YtfkapannahcjiaaGreatDoor
open Go.RowKit

abbrev PV := VC × Val
abbrev PF := VC × Fld
def recV (p : PV) : List Value := p.1.list
def recF (p : PF) : List Value := .string p.2.s :: p.1.list
theorem recV_length (p : PV) : (recV p).length = 5 := rfl
theorem recF_length (p : PF) : (recF p).length = 6 := rfl
theorem recV_one (p : PV) : ∀ u ∈ recV p, u.oneCell' = true := by simp [recV, VC.list, Value.oneCell']
theorem recF_one (p : PF) : ∀ u ∈ recF p, u.oneCell' = true := by simp [recF, VC.list, Value.oneCell']

/-- a slice of values, by its cells and what they read as -/
structure SL (F : Nat → Prop) (w : World) (A : Option Addr) (n c : Nat) (ps : List PV) : Prop where
  sr : SR 5 recV w A n c ps
  sz : n * 80 ≤ reach
  blk : 0 < n → ∃ b off, A = some ⟨b, off, none⟩ ∧ Ft F w b
  rv : ∀ p ∈ ps, RV F w p.1 p.2
/-- a slice of fields -/
structure SD (F : Nat → Prop) (w : World) (A : Option Addr) (n c : Nat) (ps : List PF) : Prop where
  sr : SR 6 recF w A n c ps
  sz : n * 96 ≤ reach
  blk : 0 < n → ∃ b off, A = some ⟨b, off, none⟩ ∧ Ft F w b
  ns : ∀ p ∈ ps, p.2.s.size ≤ reach
  rv : ∀ p ∈ ps, RV F w p.1 p.2.v

section
variable {F G : Nat → Prop} {w w' : World} {A : Option Addr} {n c : Nat}
theorem vat_of {b off : Nat} {u : VC} (h : ∀ (j : Nat) (v : Value), u.list[j]? = some v → w.cell? ⟨b, off + j, none⟩ = some v) : VAt w b off u :=
  ⟨h 0 _ rfl, h 1 _ rfl, h 2 _ rfl, h 3 _ rfl, h 4 _ rfl⟩
theorem vat_cell {b off : Nat} {u : VC} (h : VAt w b off u) : ∀ (j : Nat) (v : Value), u.list[j]? = some v → w.cell? ⟨b, off + j, none⟩ = some v := by
  obtain ⟨h0, h1, h2, h3, h4⟩ := h
  intro j v hj
  match j, hj with
  | 0, hj => simp [VC.list] at hj; subst hj; exact h0
  | 1, hj => simp [VC.list] at hj; subst hj; exact h1
  | 2, hj => simp [VC.list] at hj; subst hj; exact h2
  | 3, hj => simp [VC.list] at hj; subst hj; exact h3
  | 4, hj => simp [VC.list] at hj; subst hj; exact h4
  | j + 5, hj => simp [VC.list] at hj
theorem choose_list {α β : Type} {p : Nat → β → α → Prop} : ∀ {l : List β}, (∀ i y, l[i]? = some y → ∃ u, p i y u) → ∃ ps : List (α × β), ps.map Prod.snd = l ∧ ∀ i q, ps[i]? = some q → p i q.2 q.1 := by
  intro l
  induction l generalizing p with
  | nil => intro _; exact ⟨[], rfl, fun i q h => by simp at h⟩
  | cons y r ih =>
    intro h
    obtain ⟨u, hu⟩ := h 0 y rfl
    obtain ⟨ps, h1, h2⟩ := ih (p := fun i => p (i + 1)) (fun i y hy => h (i + 1) y (by simpa using hy))
    refine ⟨(u, y) :: ps, by simp [h1], fun i q hq => ?_⟩
    cases i with
    | zero => simp at hq; subst hq; exact hu
    | succ i => exact h2 i q (by simpa using hq)
theorem RV.sl {u : VC} {x : Val} (h : RV F w u x) : ∃ ps : List PV, ps.map Prod.snd = x.l ∧ SL F w u.LA u.ln u.lc ps := by
  have ho := h.open
  by_cases hn : 0 < u.ln
  · obtain ⟨b, off, e, hF, hl⟩ := ho.la hn
    obtain ⟨ps, h1, h2⟩ := choose_list hl
    have hlen : u.ln = ps.length := by rw [ho.ln, ← h1]; simp
    refine ⟨ps, h1, ⟨hlen, ho.lc, fun _ => ⟨b, off, e, ?_, fun i a hi j v hj => vat_cell (h2 i a hi).1 j v hj⟩⟩, ho.lsz, fun _ => ⟨b, off, e, hF⟩, fun p hp => ?_⟩
    · obtain ⟨q, hq⟩ : ∃ q, ps[0]? = some q := ⟨_, List.getElem?_eq_getElem (by omega)⟩
      exact (h2 0 q hq).1.lt
    · obtain ⟨i, hi⟩ := List.getElem?_of_mem hp
      exact (h2 i p hi).2
  · have h0 : u.ln = 0 := by omega
    have hx : x.l = [] := List.eq_nil_of_length_eq_zero (by rw [← ho.ln]; exact h0)
    exact ⟨[], by rw [hx]; rfl, ⟨by rw [h0]; rfl, ho.lc, fun h => absurd h hn⟩, ho.lsz, fun h => absurd h hn, fun p hp => by simp at hp⟩
theorem RV.sd {u : VC} {x : Val} (h : RV F w u x) : ∃ ps : List PF, ps.map Prod.snd = x.d ∧ SD F w u.DA u.dn u.dc ps := by
  have ho := h.open
  by_cases hn : 0 < u.dn
  · obtain ⟨b, off, e, hF, hl⟩ := ho.da hn
    obtain ⟨ps, h1, h2⟩ := choose_list (p := fun i (f : Fld) (v : VC) => w.cell? ⟨b, off + i * 6, none⟩ = some (.string f.s) ∧ f.s.size ≤ reach ∧ VAt w b (off + i * 6 + 1) v ∧ RV F w v f.v) (fun i f hf => by
      obtain ⟨h1, h2, v, h3, h4⟩ := hl i f hf
      exact ⟨v, h1, h2, h3, h4⟩)
    have hlen : u.dn = ps.length := by rw [ho.dn, ← h1]; simp
    refine ⟨ps, h1, ⟨hlen, ho.dc, fun _ => ⟨b, off, e, ?_, fun i a hi j v hj => ?_⟩⟩, ho.dsz, fun _ => ⟨b, off, e, hF⟩, fun p hp => ?_, fun p hp => ?_⟩
    · obtain ⟨q, hq⟩ : ∃ q, ps[0]? = some q := ⟨_, List.getElem?_eq_getElem (by omega)⟩
      exact (h2 0 q hq).2.2.1.lt
    · obtain ⟨k0, _, k1, _⟩ := h2 i a hi
      cases j with
      | zero => simp [recF] at hj; subst hj; exact k0
      | succ j =>
        have := vat_cell k1 j v (by simpa [recF] using hj)
        rw [show off + i * 6 + (j + 1) = off + i * 6 + 1 + j by omega]
        exact this
    · obtain ⟨i, hi⟩ := List.getElem?_of_mem hp
      exact (h2 i p hi).2.1
    · obtain ⟨i, hi⟩ := List.getElem?_of_mem hp
      exact (h2 i p hi).2.2.2
  · have h0 : u.dn = 0 := by omega
    have hx : x.d = [] := List.eq_nil_of_length_eq_zero (by rw [← ho.dn]; exact h0)
    exact ⟨[], by rw [hx]; rfl, ⟨by rw [h0]; rfl, ho.dc, fun h => absurd h hn⟩, ho.dsz, fun h => absurd h hn, fun p hp => by simp at hp, fun p hp => by simp at hp⟩
/-- back from slices to a value -/
theorem RV.of_slices {k m : Int} {t : ByteArray} {LA DA : Option Addr} {ln lc dn dc : Nat} {ps : List PV} {fs : List PF} (ht : t.size ≤ reach) (hl : SL F w LA ln lc ps) (hd : SD F w DA dn dc fs) :
    RV F w ⟨k, m, t, LA, ln, lc, DA, dn, dc⟩ (.mk k m t (ps.map Prod.snd) (fs.map Prod.snd)) := by
  refine RVs.shut ⟨rfl, rfl, rfl, ht, by simp [Val.l, hl.sr.ln], hl.sr.lc, hl.sz, fun hn => ?_, by simp [Val.d, hd.sr.ln], hd.sr.lc, hd.sz, fun hn => ?_⟩
  · obtain ⟨b, off, e, _, hel⟩ := hl.sr.el hn
    obtain ⟨b', off', e', hF⟩ := hl.blk hn
    rw [e] at e'
    cases e'
    refine ⟨b, off, e, hF, fun i y hi => ?_⟩
    simp only [Val.l, List.getElem?_map] at hi
    obtain ⟨p, hp, rfl⟩ := Option.map_eq_some_iff.1 hi
    exact ⟨p.1, vat_of fun j v hj => hel i p hp j v hj, hl.rv p (List.mem_of_getElem? hp)⟩
  · obtain ⟨b, off, e, _, hel⟩ := hd.sr.el hn
    obtain ⟨b', off', e', hF⟩ := hd.blk hn
    rw [e] at e'
    cases e'
    refine ⟨b, off, e, hF, fun i y hi => ?_⟩
    simp only [Val.d, List.getElem?_map] at hi
    obtain ⟨p, hp, rfl⟩ := Option.map_eq_some_iff.1 hi
    refine ⟨hel i p hp 0 _ rfl, hd.ns p (List.mem_of_getElem? hp), p.1, vat_of fun j v hj => ?_, hd.rv p (List.mem_of_getElem? hp)⟩
    have := hel i p hp (j + 1) v (by simpa [recF] using hj)
    rw [show off + i * 6 + 1 + j = off + i * 6 + (j + 1) by omega]
    exact this
theorem SL.vat {ps : List PV} (h : SL F w A n c ps) {i : Nat} {p : PV} (hi : ps[i]? = some p) : ∃ b off, A = some ⟨b, off, none⟩ ∧ F b ∧ VAt w b (off + i * 5) p.1 ∧ RV F w p.1 p.2 := by
  have hn : 0 < n := by have := (List.getElem?_eq_some_iff.1 hi).1; have := h.sr.ln; omega
  obtain ⟨b, off, e, _, hel⟩ := h.sr.el hn
  obtain ⟨b', off', e', hF⟩ := h.blk hn
  rw [e] at e'
  cases e'
  exact ⟨b, off, e, hF.1, vat_of fun j v hj => hel i p hi j v hj, h.rv p (List.mem_of_getElem? hi)⟩
theorem SD.vat {ps : List PF} (h : SD F w A n c ps) {i : Nat} {p : PF} (hi : ps[i]? = some p) : ∃ b off, A = some ⟨b, off, none⟩ ∧ F b ∧ w.cell? ⟨b, off + i * 6, none⟩ = some (.string p.2.s) ∧ VAt w b (off + i * 6 + 1) p.1 ∧ RV F w p.1 p.2.v := by
  have hn : 0 < n := by have := (List.getElem?_eq_some_iff.1 hi).1; have := h.sr.ln; omega
  obtain ⟨b, off, e, _, hel⟩ := h.sr.el hn
  obtain ⟨b', off', e', hF⟩ := h.blk hn
  rw [e] at e'
  cases e'
  refine ⟨b, off, e, hF.1, hel i p hi 0 _ rfl, vat_of fun j v hj => ?_, h.rv p (List.mem_of_getElem? hi)⟩
  have := hel i p hi (j + 1) v (by simpa [recF] using hj)
  rw [show off + i * 6 + 1 + j = off + i * 6 + (j + 1) by omega]
  exact this
theorem SL.step {ps : List PV} (h : SL F w A n c ps) (hb : Below w.heap.size w w') : SL F w' A n c ps := ⟨h.sr.step hb, h.sz, fun hn => by
  obtain ⟨b, off, e, hF⟩ := h.blk hn
  obtain ⟨b', off', e', hl, _⟩ := h.sr.el hn
  rw [e] at e'
  cases e'
  exact ⟨b, off, e, hF.keepG hl fun q hq hql => ⟨hq, hb.block q hql⟩⟩, fun p hp => (h.rv p hp).step hb⟩
theorem SD.step {ps : List PF} (h : SD F w A n c ps) (hb : Below w.heap.size w w') : SD F w' A n c ps := ⟨h.sr.step hb, h.sz, fun hn => by
  obtain ⟨b, off, e, hF⟩ := h.blk hn
  obtain ⟨b', off', e', hl, _⟩ := h.sr.el hn
  rw [e] at e'
  cases e'
  exact ⟨b, off, e, hF.keepG hl fun q hq hql => ⟨hq, hb.block q hql⟩⟩, h.ns, fun p hp => (h.rv p hp).step hb⟩
theorem SL.mono {ps : List PV} (h : SL F w A n c ps) (hk : ∀ b, F b → G b) : SL G w A n c ps := ⟨h.sr, h.sz, fun hn => by obtain ⟨b, off, e, hF⟩ := h.blk hn; exact ⟨b, off, e, hk b hF.1, fun hG => hF.2 fun h0 => hG (hk 0 h0)⟩, fun p hp => (h.rv p hp).mono hk⟩
theorem SD.mono {ps : List PF} (h : SD F w A n c ps) (hk : ∀ b, F b → G b) : SD G w A n c ps := ⟨h.sr, h.sz, fun hn => by obtain ⟨b, off, e, hF⟩ := h.blk hn; exact ⟨b, off, e, hk b hF.1, fun hG => hF.2 fun h0 => hG (hk 0 h0)⟩, h.ns, fun p hp => (h.rv p hp).mono hk⟩
theorem SL.nil : SL F w none 0 0 [] := ⟨SR.nil, by decide, fun h => absurd h (Nat.lt_irrefl 0), fun p hp => by simp at hp⟩
theorem SD.nil : SD F w none 0 0 [] := ⟨SR.nil, by decide, fun h => absurd h (Nat.lt_irrefl 0), fun p hp => by simp at hp, fun p hp => by simp at hp⟩
theorem SL.of_own {base : Nat} {t : TypeId} {v : Value} {ps : List PV} (h : w.ownsRow base t 5 v n (flat recV ps)) (hl : ps.length = n) (hz : n * 80 ≤ reach) (hF : ∀ b, base ≤ b → F b) (hr : ∀ p ∈ ps, RV F w p.1 p.2) : ∃ A c, v = .slice A n c ∧ SL F w A n c ps := by
  obtain ⟨A, c, rfl, hs⟩ := SR.of_own recV_length h hl
  refine ⟨A, c, rfl, hs, hz, fun hn => ?_, hr⟩
  obtain ⟨b, off, rfl, _⟩ := hs.el hn
  rcases h.2 with ⟨h', _⟩ | ⟨g, cap, cur, hv, hg, hbl, _⟩
  · cases h'
  · cases hv
    exact ⟨b, 0, rfl, hF b hg, fun _ i => Blk.frozen (t := t) (cs := cur) hbl i⟩
theorem SD.of_own {base : Nat} {t : TypeId} {v : Value} {ps : List PF} (h : w.ownsRow base t 6 v n (flat recF ps)) (hl : ps.length = n) (hz : n * 96 ≤ reach) (hF : ∀ b, base ≤ b → F b) (hs : ∀ p ∈ ps, p.2.s.size ≤ reach) (hr : ∀ p ∈ ps, RV F w p.1 p.2.v) : ∃ A c, v = .slice A n c ∧ SD F w A n c ps := by
  obtain ⟨A, c, rfl, hsr⟩ := SR.of_own recF_length h hl
  refine ⟨A, c, rfl, hsr, hz, fun hn => ?_, hs, hr⟩
  obtain ⟨b, off, rfl, _⟩ := hsr.el hn
  rcases h.2 with ⟨h', _⟩ | ⟨g, cap, cur, hv, hg, hbl, _⟩
  · cases h'
  · cases hv
    exact ⟨b, 0, rfl, hF b hg, fun _ i => Blk.frozen (t := t) (cs := cur) hbl i⟩
end
end Go.Proofs.YtfkapannahcjiaaGreatDoor


/- Rows of values and fields of the call's own. -/
namespace Go.Proofs.YtfkapannahcjiaaGreatDoor
open Go.RowKit

theorem flat_at' {α : Type} {rec : α → List Value} {s : Nat} (hs : ∀ a, (rec a).length = s) (hp : 0 < s) (xs : List α) (k : Nat) (hk : k < xs.length * s) : ∃ a v, xs[k / s]? = some a ∧ (rec a)[k % s]? = some v ∧ (flat rec xs)[k]? = some v := by
  have h1 : k / s < xs.length := Nat.div_lt_of_lt_mul (by rw [Nat.mul_comm]; exact hk)
  have h2 : k % s < s := Nat.mod_lt _ hp
  refine ⟨xs[k / s], (rec xs[k / s])[k % s]'(by rw [hs]; exact h2), List.getElem?_eq_getElem h1, List.getElem?_eq_getElem (by rw [hs]; exact h2), ?_⟩
  have := flat_get hs (List.getElem?_eq_getElem h1) (List.getElem?_eq_getElem (l := rec xs[k / s]) (i := k % s) (by rw [hs]; exact h2))
  rw [show k / s * s + k % s = k by rw [Nat.mul_comm]; exact Nat.div_add_mod k s] at this
  exact this
/-- a row whose cells are known, whole -/
theorem blk_of_row {α : Type} {rec : α → List Value} {s : Nat} (hs : ∀ a, (rec a).length = s) (hp : 0 < s) {w : World} {g : Nat} {t : TypeId} {L : List α} (h : Row w g t (L.length * s)) (hel : ∀ j p, L[j]? = some p → ∀ i v, (rec p)[i]? = some v → w.cell? ⟨g, j * s + i, none⟩ = some v) : Blk w g t (flat rec L).toArray := by
  obtain ⟨cs, h1, h2⟩ := h
  have e : cs = (flat rec L).toArray := by
    apply Array.ext'
    apply List.ext_getElem?
    intro k
    by_cases hk : k < L.length * s
    · obtain ⟨p, v, g1, g2, g3⟩ := flat_at' hs hp L k hk
      rw [List.toList_toArray, g3]
      have hc := h1.cell k
      have hv := hel (k / s) p g1 (k % s) v g2
      rw [show k / s * s + k % s = k by rw [Nat.mul_comm]; exact Nat.div_add_mod k s, hc] at hv
      rw [← hv]
      simp
    · rw [List.getElem?_eq_none (by simp; omega), List.getElem?_eq_none (by rw [List.toList_toArray, flat_length hs]; omega)]
  rw [← e]
  exact h1
theorem own_of_blk {α : Type} {rec : α → List Value} {s : Nat} (hs : ∀ a, (rec a).length = s) {w : World} {g : Nat} {t : TypeId} {L : List α} (h : Blk w g t (flat rec L).toArray) {base : Nat} (hb : base ≤ g) (hm : L.length ≤ maxLen) : w.ownsRow base t s (.slice (some ⟨g, 0, none⟩) L.length L.length) L.length (flat rec L) :=
  ⟨flat_length hs L, .inr ⟨g, L.length, (flat rec L).toArray, rfl, hb, h, Nat.le_refl _, hm, by simp [flat_length hs], by rw [List.toList_toArray, ← flat_length hs]; exact List.take_length⟩⟩

theorem Cl.step {lo mid : Nat} {w w' : World} {c : VC} {x : Val} (h : Cl lo mid w c x) (hb : Below w.heap.size w w') : Cl lo mid w' c x := by
  refine ⟨h.k, h.n, h.t, h.tsz, h.ln, h.lc, h.lsz, h.l0, fun hn => ?_, h.hmid, h.dn, h.dc, h.dsz, h.d0, fun hn => ?_⟩
  · obtain ⟨g, h1, h2, h3, h4, h5⟩ := h.la hn
    refine ⟨g, h1, h2, h3, h4.step hb, fun i y hi => ?_⟩
    obtain ⟨e, k1, k2⟩ := h5 i y hi
    exact ⟨e, k1.step hb, k2.step hb⟩
  · obtain ⟨g, h1, h2, h3, h4⟩ := h.da hn
    refine ⟨g, h1, h2, h3.step hb, fun i f hi => ?_⟩
    obtain ⟨k0, kz, e, k1, k2⟩ := h4 i f hi
    exact ⟨(hb.cell (p := ⟨g, i * 6, none⟩) h3.lt).trans k0, kz, e, k1.step hb, k2.step hb⟩

/-- the fields of a copy, as a row of its own -/
theorem gr_cell {w3 w4 : World} {o : Obj} {row : Option Nat} (hg : (w3.alloc o).grownBy w4 row) {p : Addr} {v : Value} (h : w3.cell? p = some v) (hne : row ≠ some p.block) : w4.cell? p = some v := by
  have hlt := World.block_lt_of_cell? w3 p h
  rw [World.cell?_of_block (w := w3.alloc o) (hg.block p.block (by simp; omega) (fun e => hne e.symm)), World.cell?_alloc_lt w3 o p hlt]
  exact h
theorem gr_frozen {w3 w4 : World} {o : Obj} {row : Option Nat} (hg : (w3.alloc o).grownBy w4 row) {p : Addr} (hlt : p.block < w3.heap.size) (hne : row ≠ some p.block) : w4.frozen? p = w3.frozen? p := by
  rw [World.frozen?_of_block (w := w3.alloc o) (hg.block p.block (by simp; omega) (fun e => hne e.symm)), World.frozen?_of_block (w := w3) (Below.heap_alloc w3 o p.block hlt)]
theorem Cl.own {lo mid : Nat} {w : World} {c : VC} {x : Val} (h : Cl lo mid w c x) : ∃ fs : List PF, fs.map Prod.snd = x.d ∧ w.ownsRow lo 59 6 (.slice c.DA c.dn c.dc) c.dn (flat recF fs) ∧
    ∀ p ∈ fs, p.2.s.size ≤ reach ∧ RV (fun b => lo ≤ b ∧ (Value.slice c.DA c.dn c.dc).ownBlock ≠ some b) w p.1 p.2.v := by
  have hdc := h.dc
  by_cases hn : 0 < c.dn
  · obtain ⟨g, hA, hg, hrow, hel⟩ := h.da hn
    obtain ⟨fs, h1, h2⟩ := choose_list (p := fun i (f : Fld) (v : VC) => w.cell? ⟨g, i * 6, none⟩ = some (.string f.s) ∧ f.s.size ≤ reach ∧ VAt w g (i * 6 + 1) v ∧ RV (fun b => g < b) w v f.v) (l := x.d) (fun i f hf => by
      obtain ⟨h1, h2, v, h3, h4⟩ := hel i f hf
      exact ⟨v, h1, h2, h3, h4⟩)
    have hl : fs.length = c.dn := by rw [h.dn, ← h1]; simp
    have hb : Blk w g 59 (flat recF fs).toArray := blk_of_row recF_length (by omega) (by rw [hl]; exact hrow) (fun j p hp i v hv => by
      obtain ⟨k0, _, k1, _⟩ := h2 j p hp
      cases i with
      | zero => simp [recF] at hv; subst hv; exact k0
      | succ i =>
        have := vat_cell k1 i v (by simpa [recF] using hv)
        rw [show j * 6 + (i + 1) = j * 6 + 1 + i by omega]
        exact this)
    have hz := h.dsz
    unfold reach at hz
    have := own_of_blk recF_length hb (base := lo) (by have := h.hmid; omega) (by rw [hl]; unfold maxLen; omega)
    rw [hl] at this
    refine ⟨fs, h1, by rw [hA, hdc]; exact this, fun p hp => ?_⟩
    obtain ⟨i, hi⟩ := List.getElem?_of_mem hp
    obtain ⟨_, k2, _, k4⟩ := h2 i p hi
    refine ⟨k2, k4.mono fun b hb => ⟨by have := h.hmid; omega, ?_⟩⟩
    rw [hA]
    simp [Value.ownBlock]
    omega
  · have h0 : c.dn = 0 := by omega
    have hx : x.d = [] := List.eq_nil_of_length_eq_zero (by rw [← h.dn]; exact h0)
    refine ⟨[], by rw [hx]; rfl, ?_, fun p hp => by simp at hp⟩
    rw [h.d0 h0, hdc, h0]
    exact own_nil _ _ _ _

theorem SL.keepG {F G : Nat → Prop} {w w' : World} {A : Option Addr} {n c : Nat} {ps : List PV} (h : SL F w A n c ps) (hk : ∀ b, F b → b < w.heap.size → G b ∧ w'.heap[b]? = w.heap[b]?) : SL G w' A n c ps := by
  refine ⟨⟨h.sr.ln, h.sr.lc, fun hn => ?_⟩, h.sz, fun hn => ?_, fun p hp => (h.rv p hp).keepG hk⟩
  · obtain ⟨b, off, h1, h2, h3⟩ := h.sr.el hn
    obtain ⟨b', off', h1', hF⟩ := h.blk hn
    rw [h1] at h1'
    cases h1'
    have he := (hk b hF.1 h2).2
    refine ⟨b, off, h1, ?_, fun i a hi j v hj => (World.cell?_of_block (w := w) (a := ⟨b, off + i * 5 + j, none⟩) he).trans (h3 i a hi j v hj)⟩
    rcases Nat.lt_or_ge b w'.heap.size with hlt | hge
    · exact hlt
    · rw [Array.getElem?_eq_none hge, Array.getElem?_eq_getElem h2] at he
      cases he
  · obtain ⟨b, off, h1, h2, h3⟩ := h.sr.el hn
    obtain ⟨b', off', h1', hF⟩ := h.blk hn
    rw [h1] at h1'
    cases h1'
    exact ⟨b, off, h1, hF.keepG h2 hk⟩
theorem own_keep {w w' : World} {base : Nat} {e : TypeId} {size n : Nat} {v : Value} {xs : List Value} (h : w.ownsRow base e size v n xs) (hk : ∀ g, v.ownBlock = some g → w'.heap[g]? = w.heap[g]?) : w'.ownsRow base e size v n xs := by
  refine ⟨h.1, ?_⟩
  rcases h.2 with h2 | ⟨g, cap, cur, rfl, hg, hh, hr⟩
  · exact .inl h2
  · exact .inr ⟨g, cap, cur, rfl, hg, (hk g rfl).trans hh, hr⟩

end Go.Proofs.YtfkapannahcjiaaGreatDoor


/- Chunks, orders and routes as plain data, and what it means that memory reads as them. · Chunks: the plain law. What the functions of the program compute. · Paths: the contracts of path.notName, slices.ContainsFunc and path.Valid. -/
namespace Go.Proofs.YtfkapannahcjiaaGreatDoor
open Go.RowKit

/-- the cells of a text -/
def recT (s : ByteArray) : List Value := [.string s]
/-- an order in memory -/
structure OC where
  A : Option Addr
  n : Nat
  c : Nat
  d : Bool
def recO (o : OC) : List Value := [.slice o.A o.n o.c, .bool o.d]
def OC.zero : OC := ⟨none, 0, 0, false⟩
/-- an order -/
structure Od where
  p : List ByteArray
  d : Bool
/-- a slice of texts -/
structure ST (w : World) (A : Option Addr) (n c : Nat) (l : List ByteArray) : Prop where
  sr : SR 1 recT w A n c l
  sz : n * 16 ≤ reach
  el : ∀ s ∈ l, s.size ≤ reach
theorem ST.step {w w' : World} {A : Option Addr} {n c : Nat} {l : List ByteArray} (h : ST w A n c l) (hb : Below w.heap.size w w') : ST w' A n c l := ⟨h.sr.step hb, h.sz, h.el⟩
theorem ST.alloc {w : World} {A : Option Addr} {n c : Nat} {l : List ByteArray} (h : ST w A n c l) (o : Obj) : ST (w.alloc o) A n c l := h.step ((Below.refl _ _).alloc (Nat.le_refl _) o)
/-- an order reads -/
structure OR (w : World) (o : OC) (q : Od) : Prop where
  d : o.d = q.d
  st : ST w o.A o.n o.c q.p
theorem OR.step {w w' : World} {o : OC} {q : Od} (h : OR w o q) (hb : Below w.heap.size w w') : OR w' o q := ⟨h.d, h.st.step hb⟩
/-- a slice of orders -/
structure KO (w : World) (A : Option Addr) (n c : Nat) (os : List OC) (ks : List Od) : Prop where
  sr : SR 2 recO w A n c os
  sz : n * 32 ≤ reach
  ln : os.length = ks.length
  el : ∀ (i : Nat) (o : OC) (q : Od), os[i]? = some o → ks[i]? = some q → OR w o q
theorem KO.step {w w' : World} {A : Option Addr} {n c : Nat} {os : List OC} {ks : List Od} (h : KO w A n c os ks) (hb : Below w.heap.size w w') : KO w' A n c os ks := ⟨h.sr.step hb, h.sz, h.ln, fun i o q h1 h2 => (h.el i o q h1 h2).step hb⟩
def KS (w : World) (A : Option Addr) (n c : Nat) (ks : List Od) : Prop := ∃ os, KO w A n c os ks
theorem KS.step {w w' : World} {A : Option Addr} {n c : Nat} {ks : List Od} (h : KS w A n c ks) (hb : Below w.heap.size w w') : KS w' A n c ks := by obtain ⟨os, h⟩ := h; exact ⟨os, h.step hb⟩
theorem KS.nil {w : World} {A : Option Addr} {c : Nat} : KS w A 0 c [] := ⟨[], SR.nil, by show 0 * 32 ≤ reach; decide, rfl, fun i o q h => by simp at h⟩
theorem KS.ln {w : World} {A : Option Addr} {n c : Nat} {ks : List Od} (h : KS w A n c ks) : n = ks.length := by obtain ⟨os, h⟩ := h; rw [h.sr.ln, h.ln]
/-- where the slices of routes lie -/
structure RA where
  KA : Option Addr
  kn : Nat
  kc : Nat
  CA : Option Addr
  cn : Nat
  cc : Nat
def RA.zero : RA := ⟨none, 0, 0, none, 0, 0⟩
theorem SR.at2 {w : World} {A : Option Addr} {n c : Nat} {l : List OC} (h : SR 2 recO w A n c l) {i : Nat} (hi : i < n) : ∃ b off x, A = some ⟨b, off, none⟩ ∧ b < w.heap.size ∧ l[i]? = some x ∧
    w.cell? ⟨b, off + i * 2, none⟩ = some (.slice x.A x.n x.c) ∧ w.cell? ⟨b, off + i * 2 + 1, none⟩ = some (.bool x.d) := by
  obtain ⟨b, off, e, hb, hc⟩ := h.el (by omega)
  have hl : i < l.length := by have := h.ln; omega
  have h1 := List.getElem?_eq_getElem hl
  exact ⟨b, off, l[i], e, hb, h1, hc i _ h1 0 _ rfl, hc i _ h1 1 _ rfl⟩
theorem SR.at1 {w : World} {A : Option Addr} {n c : Nat} {l : List ByteArray} (h : SR 1 recT w A n c l) {i : Nat} (hi : i < n) : ∃ b off x, A = some ⟨b, off, none⟩ ∧ b < w.heap.size ∧ l[i]? = some x ∧
    w.cell? ⟨b, off + i, none⟩ = some (.string x) := by
  obtain ⟨b, off, e, hb, hc⟩ := h.el (by omega)
  have hl : i < l.length := by have := h.ln; omega
  have h1 := List.getElem?_eq_getElem hl
  exact ⟨b, off, l[i], e, hb, h1, by simpa using hc i _ h1 0 _ rfl⟩

/-- what a slice of records reads as -/
theorem SR.reads {α : Type} {rec : α → List Value} {s : Nat} (hs : ∀ a, (rec a).length = s) (hp : 0 < s) {w : World} {A : Option Addr} {n c : Nat} {xs : List α} (h : SR s rec w A n c xs) : Reads w w.heap.size s A n (flat rec xs) := by
  refine ⟨by rw [flat_length hs, h.ln], fun hn => ?_⟩
  obtain ⟨b, off, e, hb, hel⟩ := h.el hn
  subst e
  refine ⟨_, rfl, hb, fun j u hu => ?_⟩
  have hj := (List.getElem?_eq_some_iff.1 hu).1
  rw [flat_length hs] at hj
  obtain ⟨a, v, g1, g2, g3⟩ := flat_at' hs hp xs j hj
  have := hel (j / s) a g1 (j % s) v g2
  rw [addr_add]
  rw [g3] at hu
  cases hu
  have hdm := Nat.div_add_mod j s
  rw [Nat.mul_comm] at hdm
  rw [show off + j = off + j / s * s + j % s by omega]
  exact this
end Go.Proofs.YtfkapannahcjiaaGreatDoor

namespace Go.Proofs.YtfkapannahcjiaaGreatDoor
open Go.RowKit

section
variable {α : Type}
/-- the index of the first element that fulfils p, -1 if there is none -/
def idxFrom (p : α → Bool) : List α → Nat → Int
  | [], _ => -1
  | c :: r, i => if p c then (i : Int) else idxFrom p r (i + 1)
def idxI (p : α → Bool) (l : List α) : Int := idxFrom p l 0
theorem idxFrom_range (p : α → Bool) : ∀ (l : List α) (k : Nat), (idxFrom p l k = -1 ∧ ∀ c ∈ l, p c = false) ∨ ∃ (i : Nat) (c : α), idxFrom p l k = (k + i : Nat) ∧ l[i]? = some c ∧ p c = true ∧ ∀ j, j < i → ∀ d, l[j]? = some d → p d = false := by
  intro l
  induction l with
  | nil => intro k; exact .inl ⟨rfl, fun _ h => by simp at h⟩
  | cons c r ih =>
    intro k
    cases hc : p c
    · rw [idxFrom, hc, if_neg (by simp)]
      rcases ih (k + 1) with ⟨h1, h2⟩ | ⟨i, d, h1, h2, h3, h4⟩
      · refine .inl ⟨h1, fun x hx => ?_⟩
        rcases List.mem_cons.1 hx with rfl | hx
        · exact hc
        · exact h2 x hx
      · refine .inr ⟨i + 1, d, by rw [h1]; omega, by simpa using h2, h3, fun j hj e he => ?_⟩
        cases j with
        | zero => simp at he; subst he; exact hc
        | succ j => exact h4 j (by omega) e (by simpa using he)
    · rw [idxFrom, hc, if_pos rfl]
      exact .inr ⟨0, c, rfl, rfl, hc, fun j hj => absurd hj (by omega)⟩
theorem idxI_range (p : α → Bool) (l : List α) : (idxI p l = -1 ∧ ∀ c ∈ l, p c = false) ∨ ∃ (i : Nat) (c : α), idxI p l = (i : Nat) ∧ l[i]? = some c ∧ p c = true ∧ ∀ j, j < i → ∀ d, l[j]? = some d → p d = false := by
  rcases idxFrom_range p l 0 with h | ⟨i, c, h1, h⟩
  · exact .inl h
  · exact .inr ⟨i, c, by rw [idxI, h1, Nat.zero_add], h⟩
end

/-- a path is valid -/
def pathB (p : List ByteArray) : Bool := decide (1 ≤ p.length) && decide (p.length ≤ 16) && p.all nameB
/-- two paths are the same -/
def sameP : List ByteArray → List ByteArray → Bool
  | [], [] => true
  | a :: r, b :: s => (a.toList == b.toList) && sameP r s
  | _, _ => false
def ordL : List Od → List Od → Int
  | _, [] => 0
  | done, o :: r => if pathB o.p = false then 10 else if done.any (fun e => sameP e.p o.p) then 12 else ordL (done ++ [o]) r
def ordE (ks : List Od) : Int := if 8 < ks.length then 2 else ordL [] ks
def keyE (ks : List Od) (ha : Bool) : Int := if ordE ks ≠ 0 then ordE ks else if ks.length = 0 ∨ (ha = true ∧ 1 < ks.length) then 11 else if ks.any (·.d) then 11 else 0
end Go.Proofs.YtfkapannahcjiaaGreatDoor

namespace Go.Proofs.YtfkapannahcjiaaGreatDoor
open Go.RowKit

set_option maxHeartbeats 1000000 in
theorem notName_any (s : ByteArray) (w : World) : Calls Tryz.prog 141 #[.string s] w fun e w' => e = .returned (.bool (!nameB s)) ∧ w' = w := by
  by_cases h1 : s.size < 1
  · have HV : Hid (nameB s = false) := by unfold Hid nameB; rw [decide_eq_false (by omega)]; rfl
    go_enter Tryz.func141, Tryz.ntmps141
    go_wp2_with fail
    go_ret
    exact ⟨by rw [HV.out]; rfl, rfl⟩
  by_cases h2 : 32 < s.size
  · have HV : Hid (nameB s = false) := by unfold Hid nameB; rw [decide_eq_true (by omega), decide_eq_false (by omega)]; rfl
    go_enter Tryz.func141, Tryz.ntmps141
    go_wp2_with fail
    go_ret
    exact ⟨by rw [HV.out]; rfl, rfl⟩
  cases h3 : ((s[0].toNat : Int) == 36)
  rotate_left
  · have HV : Hid (nameB s = false) := by
      have : s[0].toNat = 36 := by simp at h3; omega
      unfold Hid nameB
      rw [decide_eq_true (by omega), decide_eq_true (by omega), head_of s (by omega), this]
      rfl
    go_enter Tryz.func141, Tryz.ntmps141
    go_wp2_with fail
    go_ret
    exact ⟨by rw [HV.out]; rfl, rfl⟩
  have HA : Hid (nameB s = s.data.toList.all okB) := by
    have : ¬ s[0].toNat = 36 := by simp at h3; omega
    unfold Hid nameB
    rw [decide_eq_true (by omega), decide_eq_true (by omega), head_of s (by omega)]
    simp [this]
  go_enter Tryz.func141, Tryz.ntmps141
  go_wp2_with fail
  go_loopw [19] (fun v wr => ∃ i : Nat, i ≤ s.size ∧ v = .int .i64 i ∧ (s.data.toList.take i).all okB = true ∧ wr = w) (fun v _ => s.size - (intOf v).toNat)
  case atStart => exact ⟨0, Nat.zero_le _, rfl, all_zero, rfl⟩
  case round =>
    obtain ⟨i, hi, rfl, ha, rfl⟩ := hrel
    have HL := Lib.hid ha
    clear ha
    by_cases hlt : i < s.size
    · have hx := s[i].toNat_lt
      by_cases hb : (s[i].toNat : Int) < 33
      · have HV : Hid (nameB s = false) := by rw [Hid, HA.out]; exact all_not hlt (by unfold okB; rw [decide_eq_false (by omega)]; rfl)
        go_wp2_with fail
        go_ret
        exact ⟨by rw [HV.out]; rfl, rfl⟩
      by_cases hc : 126 < (s[i].toNat : Int)
      · have HV : Hid (nameB s = false) := by rw [Hid, HA.out]; exact all_not hlt (by unfold okB; rw [decide_eq_true (by omega), decide_eq_false (by omega)]; rfl)
        go_wp2_with fail
        go_ret
        exact ⟨by rw [HV.out]; rfl, rfl⟩
      cases hd : ((s[i].toNat : Int) == 46)
      rotate_left
      · have HV : Hid (nameB s = false) := by
          have : s[i].toNat = 46 := by simp at hd; omega
          rw [Hid, HA.out]
          exact all_not hlt (by unfold okB; rw [this]; rfl)
        go_wp2_with fail
        go_ret
        exact ⟨by rw [HV.out]; rfl, rfl⟩
      have HN : Hid ((s.data.toList.take (i + 1)).all okB = true) := by
        have : ¬ s[i].toNat = 46 := by simp at hd; omega
        exact all_next hlt HL.out (by unfold okB; rw [decide_eq_true (by omega), decide_eq_true (by omega)]; simp [this])
      go_wp2_with fail
      go_roundw
      case rel => exact ⟨i + 1, by omega, by go_num, HN.out, trivial⟩
      case measure => simp [intOf]; omega
    · have HV : Hid (nameB s = true) := by rw [Hid, HA.out]; exact all_end (by omega) HL.out
      go_wp2_with fail
      go_ret
      exact ⟨by rw [HV.out]; rfl, rfl⟩

theorem idxFrom_at {α : Type} {p : α → Bool} {l : List α} {i : Nat} {x : α} (h : l[i]? = some x) : idxFrom p (l.drop i) i = if p x then (i : Int) else idxFrom p (l.drop (i + 1)) (i + 1) := by rw [drop_of h, idxFrom]
theorem idxFrom_end {α : Type} {p : α → Bool} {l : List α} {i : Nat} (h : l.length ≤ i) : idxFrom p (l.drop i) i = -1 := by rw [List.drop_of_length_le h, idxFrom]

set_option maxHeartbeats 1000000 in
theorem indexN_any (l : List ByteArray) (A : Option Addr) (n c : Nat) (w : World) (h : ST w A n c l) :
    Calls Tryz.prog 176 #[.slice A n c, .func (.func 141) #[] #[]] w fun e w' => e = .returned (.int .i64 (idxI (fun s => !nameB s) l)) ∧ w' = w := by
  have hz : n ≤ 140737488355328 := by have := h.sz; unfold reach at this; omega
  have H := Lib.hid h
  clear h
  go_enter Tryz.func176, Tryz.ntmps176
  go_wp2_with fail
  go_loopw [8] (fun v wr => ∃ i : Nat, i ≤ n ∧ v = .int .i64 i ∧ idxI (fun s => !nameB s) l = idxFrom (fun s => !nameB s) (l.drop i) i ∧ wr = w) (fun v _ => n - (intOf v).toNat)
  case atStart => exact ⟨0, Nat.zero_le _, rfl, rfl, rfl⟩
  case round =>
    obtain ⟨i, hi, rfl, ha, rfl⟩ := hrel
    have HA := Lib.hid ha
    clear ha
    by_cases hlt : i < n
    · obtain ⟨b, off, x, hA, hb, hx, e0⟩ := H.out.sr.at1 hlt
      subst hA
      have HX := Lib.hid (idxFrom_at (p := fun s => !nameB s) hx)
      clear hx
      go_wp2_with fail
      refine (notName_any x _).mono ?_
      rintro e w1 ⟨rfl, rfl⟩
      cases hq : nameB x
      · have HF : Hid (idxI (fun s => !nameB s) l = (i : Int)) := by rw [Hid, HA.out, HX.out, hq]; rfl
        go_wp2_with fail
        go_ret
        exact ⟨by rw [HF.out]; rfl, rfl⟩
      · have HF : Hid (idxI (fun s => !nameB s) l = idxFrom (fun s => !nameB s) (l.drop (i + 1)) (i + 1)) := by rw [Hid, HA.out, HX.out, hq]; rfl
        go_wp2_with fail
        go_roundw
        case rel => exact ⟨i + 1, by omega, by go_num, HF.out, trivial⟩
        case measure => simp [intOf]; omega
    · have HF : Hid (idxI (fun s => !nameB s) l = -1) := by rw [Hid, HA.out]; exact idxFrom_end (by have := H.out.sr.ln; omega)
      go_wp2_with fail
      go_ret
      exact ⟨by rw [HF.out]; rfl, rfl⟩
theorem idx_all (p : ByteArray → Bool) (l : List ByteArray) : decide (0 ≤ idxI (fun s => !p s) l) = !l.all p := by
  rcases idxI_range (fun s => !p s) l with ⟨h1, h2⟩ | ⟨i, c, h1, h2, h3, _⟩
  · rw [h1]
    have : l.all p = true := List.all_eq_true.2 fun x hx => by simpa using h2 x hx
    rw [this]
    rfl
  · rw [h1]
    have : l.all p = false := List.all_eq_false.2 ⟨c, List.mem_of_getElem? h2, by simpa using h3⟩
    rw [this, decide_eq_true (by omega)]
    rfl
theorem containsN_any (l : List ByteArray) (A : Option Addr) (n c : Nat) (w : World) (h : ST w A n c l) :
    Calls Tryz.prog 140 #[.slice A n c, .func (.func 141) #[] #[]] w fun e w' => e = .returned (.bool (!l.all nameB)) ∧ w' = w := by
  have H := Lib.hid h
  clear h
  have HV := Lib.hid (idx_all nameB l)
  go_enter Tryz.func140, Tryz.ntmps140
  go_wp2_with fail
  refine (indexN_any l _ _ _ _ H.out).mono ?_
  rintro e w1 ⟨rfl, rfl⟩
  go_wp2_with fail
  go_ret
  exact ⟨by rw [← HV.out]; rfl, rfl⟩
set_option maxHeartbeats 1000000 in
theorem path_any (l : List ByteArray) (A : Option Addr) (n c : Nat) (w : World) (h : ST w A n c l) :
    Calls Tryz.prog 108 #[.slice A n c] w fun e w' => e = .returned (.bool (pathB l)) ∧ w' = w := by
  have hz : n ≤ 140737488355328 := by have := h.sz; unfold reach at this; omega
  have H := Lib.hid h
  have hn := Lib.hid h.sr.ln
  clear h
  by_cases h1 : 1 ≤ n
  · by_cases h2 : n ≤ 16
    · have HV : Hid (pathB l = l.all nameB) := by unfold Hid pathB; rw [← hn.out, decide_eq_true h1, decide_eq_true h2]; rfl
      go_enter Tryz.func108, Tryz.ntmps108
      go_wp2_with fail
      refine (containsN_any l _ _ _ _ H.out).mono ?_
      rintro e w1 ⟨rfl, rfl⟩
      go_wp2_with fail
      go_ret
      exact ⟨by rw [HV.out]; simp, rfl⟩
    · have HV : Hid (pathB l = false) := by unfold Hid pathB; rw [← hn.out, decide_eq_true h1, decide_eq_false h2]; rfl
      go_enter Tryz.func108, Tryz.ntmps108
      go_wp2_with fail
      go_ret
      exact ⟨by rw [HV.out]; rfl, rfl⟩
  · have HV : Hid (pathB l = false) := by unfold Hid pathB; rw [← hn.out, decide_eq_false h1]; rfl
    go_enter Tryz.func108, Tryz.ntmps108
    go_wp2_with fail
    go_ret
    exact ⟨by rw [HV.out]; rfl, rfl⟩

end Go.Proofs.YtfkapannahcjiaaGreatDoor



/- Predicates and expressions as trees of their cells, and what it means that memory reads as them. -/
namespace Go.Proofs.YtfkapannahcjiaaGreatDoor
open Go.RowKit

/-- a slice: its cells and what they read as -/
structure Slc (α : Type) where
  A : Option Addr
  n : Nat
  c : Nat
  xs : List α
abbrev Slc.v {α : Type} (s : Slc α) : Value := .slice s.A s.n s.c
def Slc.nil {α : Type} : Slc α := ⟨none, 0, 0, []⟩

/-- an expression -/
inductive ExT where
  | mk (op : Int) (path : Slc ByteArray) (name : ByteArray) (names : Slc ByteArray) (arg : PV) (n : Int) (kA : Option Addr) (kn kc : Nat) (kids : List ExT)
def ExT.op : ExT → Int | .mk op _ _ _ _ _ _ _ _ _ => op
def ExT.path : ExT → Slc ByteArray | .mk _ x _ _ _ _ _ _ _ _ => x
def ExT.name : ExT → ByteArray | .mk _ _ x _ _ _ _ _ _ _ => x
def ExT.names : ExT → Slc ByteArray | .mk _ _ _ x _ _ _ _ _ _ => x
def ExT.arg : ExT → PV | .mk _ _ _ _ x _ _ _ _ _ => x
def ExT.n : ExT → Int | .mk _ _ _ _ _ x _ _ _ _ => x
def ExT.kA : ExT → Option Addr | .mk _ _ _ _ _ _ x _ _ _ => x
def ExT.kn : ExT → Nat | .mk _ _ _ _ _ _ _ x _ _ => x
def ExT.kc : ExT → Nat | .mk _ _ _ _ _ _ _ _ x _ => x
def ExT.kids : ExT → List ExT | .mk _ _ _ _ _ _ _ _ _ x => x
def ExT.zero : ExT := .mk 0 .nil ByteArray.empty .nil (VC.zero, Val.zero) 0 none 0 0 []
/-- a predicate -/
inductive PrT where
  | mk (op : Int) (path : Slc ByteArray) (arg : PV) (args : Slc PV) (n m sk : Int) (pts : Slc (Int × Int)) (sr : Int) (ex : ExT) (kA : Option Addr) (kn kc : Nat) (kids : List PrT)
def PrT.op : PrT → Int | .mk op _ _ _ _ _ _ _ _ _ _ _ _ _ => op
def PrT.path : PrT → Slc ByteArray | .mk _ x _ _ _ _ _ _ _ _ _ _ _ _ => x
def PrT.arg : PrT → PV | .mk _ _ x _ _ _ _ _ _ _ _ _ _ _ => x
def PrT.args : PrT → Slc PV | .mk _ _ _ x _ _ _ _ _ _ _ _ _ _ => x
def PrT.n : PrT → Int | .mk _ _ _ _ x _ _ _ _ _ _ _ _ _ => x
def PrT.m : PrT → Int | .mk _ _ _ _ _ x _ _ _ _ _ _ _ _ => x
def PrT.sk : PrT → Int | .mk _ _ _ _ _ _ x _ _ _ _ _ _ _ => x
def PrT.pts : PrT → Slc (Int × Int) | .mk _ _ _ _ _ _ _ x _ _ _ _ _ _ => x
def PrT.sr : PrT → Int | .mk _ _ _ _ _ _ _ _ x _ _ _ _ _ => x
def PrT.ex : PrT → ExT | .mk _ _ _ _ _ _ _ _ _ x _ _ _ _ => x
def PrT.kA : PrT → Option Addr | .mk _ _ _ _ _ _ _ _ _ _ x _ _ _ => x
def PrT.kn : PrT → Nat | .mk _ _ _ _ _ _ _ _ _ _ _ x _ _ => x
def PrT.kc : PrT → Nat | .mk _ _ _ _ _ _ _ _ _ _ _ _ x _ => x
def PrT.kids : PrT → List PrT | .mk _ _ _ _ _ _ _ _ _ _ _ _ _ x => x

theorem ExT.ind {p : ExT → Prop} (h : ∀ x : ExT, (∀ k ∈ x.kids, p k) → p x) : ∀ x, p x := by
  intro x
  refine ExT.rec (motive_1 := p) (motive_2 := fun l => ∀ k ∈ l, p k) ?_ ?_ ?_ x
  · intro op path name names arg n kA kn kc kids hk
    exact h _ hk
  · intro k hk; simp at hk
  · intro y r hy hr k hk
    rcases List.mem_cons.1 hk with rfl | hk
    · exact hy
    · exact hr k hk
theorem PrT.ind {p : PrT → Prop} (h : ∀ x : PrT, (∀ k ∈ x.kids, p k) → p x) : ∀ x, p x := by
  intro x
  refine PrT.rec (motive_1 := p) (motive_2 := fun l => ∀ k ∈ l, p k) ?_ ?_ ?_ x
  · intro op path arg args n m sk pts sr ex kA kn kc kids hk
    exact h _ hk
  · intro k hk; simp at hk
  · intro y r hy hr k hk
    rcases List.mem_cons.1 hk with rfl | hk
    · exact hy
    · exact hr k hk

/-- the cells of an expression -/
def recEx (x : ExT) : List Value :=
  [.int .i64 x.op, x.path.v, .string x.name, x.names.v, .int .i64 x.arg.1.k, .int .i64 x.arg.1.n, .string x.arg.1.t, .slice x.arg.1.LA x.arg.1.ln x.arg.1.lc, .slice x.arg.1.DA x.arg.1.dn x.arg.1.dc, .int .i64 x.n, .slice x.kA x.kn x.kc]
abbrev arrEx (x : ExT) : Array Value :=
  #[.int .i64 x.op, x.path.v, .string x.name, x.names.v, .int .i64 x.arg.1.k, .int .i64 x.arg.1.n, .string x.arg.1.t, .slice x.arg.1.LA x.arg.1.ln x.arg.1.lc, .slice x.arg.1.DA x.arg.1.dn x.arg.1.dc, .int .i64 x.n, .slice x.kA x.kn x.kc]
abbrev aggEx (x : ExT) : Value := .agg (arrEx x)
/-- the cells of a predicate -/
def recPr (p : PrT) : List Value :=
  [.int .i64 p.op, p.path.v, .int .i64 p.arg.1.k, .int .i64 p.arg.1.n, .string p.arg.1.t, .slice p.arg.1.LA p.arg.1.ln p.arg.1.lc, .slice p.arg.1.DA p.arg.1.dn p.arg.1.dc, p.args.v, .int .i64 p.n, .int .i64 p.m, .int .i64 p.sk, p.pts.v, .int .i64 p.sr,
    .int .i64 p.ex.op, p.ex.path.v, .string p.ex.name, p.ex.names.v, .int .i64 p.ex.arg.1.k, .int .i64 p.ex.arg.1.n, .string p.ex.arg.1.t, .slice p.ex.arg.1.LA p.ex.arg.1.ln p.ex.arg.1.lc, .slice p.ex.arg.1.DA p.ex.arg.1.dn p.ex.arg.1.dc, .int .i64 p.ex.n, .slice p.ex.kA p.ex.kn p.ex.kc,
    .slice p.kA p.kn p.kc]
abbrev arrPr (p : PrT) : Array Value :=
  #[.int .i64 p.op, p.path.v, .int .i64 p.arg.1.k, .int .i64 p.arg.1.n, .string p.arg.1.t, .slice p.arg.1.LA p.arg.1.ln p.arg.1.lc, .slice p.arg.1.DA p.arg.1.dn p.arg.1.dc, p.args.v, .int .i64 p.n, .int .i64 p.m, .int .i64 p.sk, p.pts.v, .int .i64 p.sr,
    .int .i64 p.ex.op, p.ex.path.v, .string p.ex.name, p.ex.names.v, .int .i64 p.ex.arg.1.k, .int .i64 p.ex.arg.1.n, .string p.ex.arg.1.t, .slice p.ex.arg.1.LA p.ex.arg.1.ln p.ex.arg.1.lc, .slice p.ex.arg.1.DA p.ex.arg.1.dn p.ex.arg.1.dc, .int .i64 p.ex.n, .slice p.ex.kA p.ex.kn p.ex.kc,
    .slice p.kA p.kn p.kc]
abbrev aggPr (p : PrT) : Value := .agg (arrPr p)
/-- the cells of a point -/
def recPt (p : Int × Int) : List Value := [.int .i64 p.1, .int .i64 p.2]
theorem recEx_length (x : ExT) : (recEx x).length = 11 := rfl
theorem recPr_length (p : PrT) : (recPr p).length = 25 := rfl
theorem recPt_length (p : Int × Int) : (recPt p).length = 2 := rfl

/-- memory reads as an expression -/
def WX (w : World) : ExT → Prop
  | .mk _ path name names arg _ kA kn kc kids => ST w path.A path.n path.c path.xs ∧ name.size ≤ reach ∧ ST w names.A names.n names.c names.xs ∧ RW w arg.1 arg.2 ∧ SR 11 recEx w kA kn kc kids ∧ kn * 184 ≤ reach ∧ WXs w kids
where WXs (w : World) : List ExT → Prop
  | [] => True
  | x :: r => WX w x ∧ WXs w r
/-- memory reads as a predicate, whose lists have at most 2^20 elements -/
def WP (w : World) : PrT → Prop
  | .mk _ path arg args _ _ _ pts _ ex kA kn kc kids => ST w path.A path.n path.c path.xs ∧ RW w arg.1 arg.2 ∧ SL (fun _ => True) w args.A args.n args.c args.xs ∧ args.n ≤ 1048576 ∧ SR 2 recPt w pts.A pts.n pts.c pts.xs ∧ pts.n * 16 ≤ reach ∧ WX w ex ∧ SR 25 recPr w kA kn kc kids ∧ kn * 400 ≤ reach ∧ WPs w kids
where WPs (w : World) : List PrT → Prop
  | [] => True
  | x :: r => WP w x ∧ WPs w r

theorem wxs_iff {w : World} {l : List ExT} : WX.WXs w l ↔ ∀ k ∈ l, WX w k := by
  induction l with
  | nil => simp [WX.WXs]
  | cons y r ih => simp [WX.WXs, ih]
theorem wps_iff {w : World} {l : List PrT} : WP.WPs w l ↔ ∀ k ∈ l, WP w k := by
  induction l with
  | nil => simp [WP.WPs]
  | cons y r ih => simp [WP.WPs, ih]
structure WXo (w : World) (x : ExT) : Prop where
  path : ST w x.path.A x.path.n x.path.c x.path.xs
  nsz : x.name.size ≤ reach
  names : ST w x.names.A x.names.n x.names.c x.names.xs
  arg : RW w x.arg.1 x.arg.2
  sr : SR 11 recEx w x.kA x.kn x.kc x.kids
  ksz : x.kn * 184 ≤ reach
  kids : ∀ k ∈ x.kids, WX w k
theorem WX.open {w : World} {x : ExT} (h : WX w x) : WXo w x := by
  cases x
  obtain ⟨h1, h2, h3, h4, h5, h6, h7⟩ := h
  exact ⟨h1, h2, h3, h4, h5, h6, wxs_iff.1 h7⟩
theorem WXo.shut {w : World} {x : ExT} (h : WXo w x) : WX w x := by
  cases x
  exact ⟨h.path, h.nsz, h.names, h.arg, h.sr, h.ksz, wxs_iff.2 h.kids⟩
structure WPo (w : World) (p : PrT) : Prop where
  path : ST w p.path.A p.path.n p.path.c p.path.xs
  arg : RW w p.arg.1 p.arg.2
  args : SL (fun _ => True) w p.args.A p.args.n p.args.c p.args.xs
  few : p.args.n ≤ 1048576
  pts : SR 2 recPt w p.pts.A p.pts.n p.pts.c p.pts.xs
  psz : p.pts.n * 16 ≤ reach
  ex : WX w p.ex
  sr : SR 25 recPr w p.kA p.kn p.kc p.kids
  ksz : p.kn * 400 ≤ reach
  kids : ∀ k ∈ p.kids, WP w k
theorem WP.open {w : World} {p : PrT} (h : WP w p) : WPo w p := by
  cases p
  obtain ⟨h1, h2, h3, h4, h5, h6, h7, h8, h9, h10⟩ := h
  exact ⟨h1, h2, h3, h4, h5, h6, h7, h8, h9, wps_iff.1 h10⟩
theorem WPo.shut {w : World} {p : PrT} (h : WPo w p) : WP w p := by
  cases p
  exact ⟨h.path, h.arg, h.args, h.few, h.pts, h.psz, h.ex, h.sr, h.ksz, wps_iff.2 h.kids⟩
theorem WX.step {w w' : World} (hb : Below w.heap.size w w') : ∀ {x : ExT}, WX w x → WX w' x := by
  intro x
  induction x using ExT.ind with
  | h x ih =>
    intro h
    have o := h.open
    exact WXo.shut ⟨o.path.step hb, o.nsz, o.names.step hb, o.arg.step hb, o.sr.step hb, o.ksz, fun k hk => ih k hk (o.kids k hk)⟩
theorem WP.step {w w' : World} (hb : Below w.heap.size w w') : ∀ {p : PrT}, WP w p → WP w' p := by
  intro p
  induction p using PrT.ind with
  | h p ih =>
    intro h
    have o := h.open
    exact WPo.shut ⟨o.path.step hb, o.arg.step hb, o.args.step hb, o.few, o.pts.step hb, o.psz, o.ex.step hb, o.sr.step hb, o.ksz, fun k hk => ih k hk (o.kids k hk)⟩
/-- how many predicates there are in it -/
def PrT.nodes : PrT → Nat
  | .mk _ _ _ _ _ _ _ _ _ _ _ _ _ kids => 1 + nodesL kids
where nodesL : List PrT → Nat
  | [] => 0
  | x :: r => x.nodes + nodesL r
theorem PrT.nodes_eq (p : PrT) : p.nodes = 1 + PrT.nodes.nodesL p.kids := by cases p; rfl
end Go.Proofs.YtfkapannahcjiaaGreatDoor



/- Places between values: the order of cuts, intervals as spans of cuts. -/
namespace Go.Proofs.YtfkapannahcjiaaGreatDoor

/-- a place: directly before a value, or directly after it -/
abbrev Cut := Val × Bool
def cmB (x y : Bool) : Int := if x = y then 0 else if y then -1 else 1
def cmC (a b : Cut) : Int := lex (cmpV a.1 b.1) (cmB a.2 b.2)
def VC1 (a : Cut) : Prop := validV a.1 = true
theorem cmB_anti (x y : Bool) : cmB y x = -cmB x y := by cases x <;> cases y <;> decide
theorem cmB_tr (x y z : Bool) : TR (cmB x y) (cmB y z) (cmB x z) := by cases x <;> cases y <;> cases z <;> (unfold TR; decide)
theorem cmB_zero {x y : Bool} : cmB x y = 0 ↔ x = y := by cases x <;> cases y <;> decide
theorem validV_parts {x : Val} (h : validV x = true) : x.size ≤ 1024 ∧ x.height ≤ 16 ∧ SoundV nameB x := by
  unfold validV at h
  simp only [Bool.and_eq_true, decide_eq_true_eq] at h
  exact ⟨h.1.1, h.1.2, soundB_iff.1 h.2⟩
theorem validV_of {x : Val} (h1 : x.size ≤ 1024) (h2 : x.height ≤ 16) (h3 : SoundV nameB x) : validV x = true := by
  unfold validV
  rw [decide_eq_true h1, decide_eq_true h2, soundB_true h3]
  rfl
theorem lin_cut : Lin cmC VC1 := by
  refine ⟨fun x y => lex_anti (cmpV_anti _ _) (cmB_anti _ _), fun x y z => TR.lx (cmpV_tr _ _ _) (cmB_tr _ _ _), fun x y hx hy h => ?_⟩
  have h' := lex_zero.1 h
  exact Prod.ext (cmpV_same (nm := nameB) x.1 y.1 (validV_parts hx).2.2 (validV_parts hy).2.2 h'.1) (cmB_zero.1 h'.2)
def vMin : Val := .mk 1 0 ByteArray.empty [] []
def vMax : Val := .mk 11 0 ByteArray.empty [] []
theorem valid_leaf {k : Int} (hk : k = 1 ∨ k = 11) : validV (.mk k 0 ByteArray.empty [] []) = true := by
  refine validV_of ?_ ?_ ?_
  · rw [size_parts]; unfold Val.parts; rw [if_neg (by show ¬ k = 6; omega), if_neg (by show ¬ k = 5; omega)]; simp [sizeL]
  · rw [height_parts]; unfold Val.parts; rw [if_neg (by show ¬ k = 6; omega), if_neg (by show ¬ k = 5; omega)]; simp [heightL]
  · refine (SoundV_iff _ _).2 ⟨?_, by simp [Val.l], by simp [Val.d], by simp [Val.d, NamesP]⟩
    rcases hk with rfl | rfl <;> simp [HeadP, Val.k, Val.n, Val.t, Val.l, Val.d]
theorem kind_range {x : Val} (h : validV x = true) : 1 ≤ x.k ∧ x.k ≤ 11 := by
  have := ((SoundV_iff _ _).1 (validV_parts h).2.2).1
  unfold HeadP at this
  omega
theorem min_le {a : Cut} (h : VC1 a) : cmC (vMin, false) a ≤ 0 := by
  have hk := kind_range h
  unfold cmC lex
  by_cases h1 : a.1.k = 1
  · have : cmpV vMin a.1 = 0 := cmpV_other (by rw [h1]; rfl) (by decide) (by decide) (by decide) (by decide) (by decide) (by decide) (by decide) (by decide)
    rw [this]
    simp
    unfold cmB
    split
    · omega
    · rename_i hne
      cases hb : a.2
      · exact absurd hb.symm hne
      · simp
  · have : cmpV vMin a.1 = cmpI 1 a.1.k := cmpV_kind (by show (1 : Int) ≠ a.1.k; omega)
    have h2 := cmpI_ways 1 a.1.k
    rw [this]
    split <;> omega
theorem le_max {a : Cut} (h : VC1 a) : cmC a (vMax, true) ≤ 0 := by
  have hk := kind_range h
  unfold cmC lex
  by_cases h1 : a.1.k = 11
  · have : cmpV a.1 vMax = 0 := cmpV_other (by rw [h1]; rfl) (by omega) (by omega) (by omega) (by omega) (by omega) (by omega) (by omega) (by omega)
    rw [this]
    simp
    unfold cmB
    split
    · omega
    · simp
  · have : cmpV a.1 vMax = cmpI a.1.k 11 := cmpV_kind (by show a.1.k ≠ (11 : Int); omega)
    have h2 := cmpI_ways a.1.k 11
    rw [this]
    split <;> omega

/-- an interval: lower end, upper end, are they in it -/
structure Iv where
  lo : Val
  hi : Val
  li : Bool
  hin : Bool
/-- its span -/
def Iv.sp (x : Iv) : Cut × Cut := ((x.lo, !x.li), (x.hi, x.hin))
/-- it is not empty -/
noncomputable def Iv.ne (x : Iv) : Bool := validV x.lo && validV x.hi && decide (cmC x.sp.1 x.sp.2 < 0)
/-- the spans of a list of intervals -/
noncomputable def spansL (l : List Iv) : List (Cut × Cut) := (l.filter Iv.ne).map Iv.sp
def ivOf (s : Cut × Cut) : Iv := ⟨s.1.1, s.2.1, !s.1.2, s.2.2⟩
theorem sp_ivOf (s : Cut × Cut) : (ivOf s).sp = s := by
  obtain ⟨⟨a, b⟩, c, d⟩ := s
  simp [ivOf, Iv.sp]
theorem ne_sp {x : Iv} (h : x.ne = true) : cmC x.sp.1 x.sp.2 < 0 ∧ VC1 x.sp.1 ∧ VC1 x.sp.2 := by
  unfold Iv.ne at h
  simp only [Bool.and_eq_true, decide_eq_true_eq] at h
  exact ⟨h.2, h.1.1, h.1.2⟩
theorem ne_of_sp {s : Cut × Cut} (h : cmC s.1 s.2 < 0 ∧ VC1 s.1 ∧ VC1 s.2) : (ivOf s).ne = true := by
  unfold Iv.ne
  rw [sp_ivOf]
  have h1 : validV (ivOf s).lo = true := h.2.1
  have h2 : validV (ivOf s).hi = true := h.2.2
  rw [h1, h2, decide_eq_true h.1]
  rfl
theorem spansL_ne {l : List Iv} : ∀ s ∈ spansL l, cmC s.1 s.2 < 0 ∧ VC1 s.1 ∧ VC1 s.2 := by
  intro s hs
  obtain ⟨x, hx, rfl⟩ := List.mem_map.1 hs
  exact ne_sp (List.mem_filter.1 hx).2
theorem spansL_app (l m : List Iv) : spansL (l ++ m) = spansL l ++ spansL m := by simp [spansL]
theorem spansL_snoc (l : List Iv) (x : Iv) : spansL (l ++ [x]) = if x.ne then spansL l ++ [x.sp] else spansL l := by
  rw [spansL_app]
  cases h : x.ne <;> simp [spansL, h]
/-- the spans of a normal form are itself -/
theorem spansL_of {n : List (Cut × Cut)} (h : ∀ s ∈ n, cmC s.1 s.2 < 0 ∧ VC1 s.1 ∧ VC1 s.2) : spansL (n.map ivOf) = n := by
  induction n with
  | nil => rfl
  | cons s r ih =>
    have e : spansL ((s :: r).map ivOf) = (ivOf s).sp :: spansL (r.map ivOf) := by
      simp [spansL, ne_of_sp (h s (by simp))]
    rw [e, sp_ivOf, ih fun t ht => h t (by simp [ht])]
/-- m is the normal form of a set of places -/
def IsNF (S : Cut → Prop) (m : List (Cut × Cut)) : Prop := NF cmC VC1 m ∧ ∀ a, inS cmC a m ↔ S a
theorem IsNF.unique {S T : Cut → Prop} {m n : List (Cut × Cut)} (h : IsNF S m) (k : IsNF T n) (e : ∀ a, VC1 a → (S a ↔ T a)) : m = n :=
  nf_unique lin_cut h.1 k.1 fun a ha => by rw [h.2, k.2]; exact e a ha
end Go.Proofs.YtfkapannahcjiaaGreatDoor



/- The interval of one value, and that of all. Plain law. -/
namespace Go.Proofs.YtfkapannahcjiaaGreatDoor
theorem cmC_zero {a b : Cut} (h : cmpV a.1 b.1 = 0) : cmC a b = cmB a.2 b.2 := by unfold cmC lex; rw [if_neg (by simpa using h)]
theorem cmC_ne {a b : Cut} (h : cmpV a.1 b.1 ≠ 0) : cmC a b = cmpV a.1 b.1 := by unfold cmC lex; rw [if_pos h]
def ptIv (v : Val) : Iv := ⟨v, v, true, true⟩
theorem pt_ne (v : Val) : (ptIv v).ne = validV v := by
  unfold Iv.ne
  have : cmC (ptIv v).sp.1 (ptIv v).sp.2 < 0 := by
    rw [cmC_zero (a := (ptIv v).sp.1) (b := (ptIv v).sp.2) (cmpV_self v)]
    show cmB false true < 0
    decide
  rw [decide_eq_true this]
  show (validV v && validV v && true) = validV v
  cases validV v <;> rfl
theorem valid_min : validV vMin = true := valid_leaf (.inl rfl)
theorem valid_max : validV vMax = true := valid_leaf (.inr rfl)
def allIv : Iv := ⟨vMin, vMax, true, true⟩
theorem min_lt_max : cmC (vMin, false) (vMax, true) < 0 := by
  rw [cmC_ne (a := (vMin, false)) (b := (vMax, true)) (by rw [cmpV_kind (by decide)]; decide)]
  show cmpV vMin vMax < 0
  rw [cmpV_kind (by decide)]; decide
theorem all_nf : IsNF (fun a => inS cmC a (spansL [allIv])) [((vMin, false), (vMax, true))] := by
  have hne : allIv.ne = true := by
    unfold Iv.ne
    rw [decide_eq_true (show cmC allIv.sp.1 allIv.sp.2 < 0 from min_lt_max)]
    show (validV vMin && validV vMax && true) = true
    rw [valid_min, valid_max]; rfl
  have e : spansL [allIv] = [((vMin, false), (vMax, true))] := by unfold spansL; rw [List.filter_cons_of_pos hne]; rfl
  refine ⟨⟨fun s hs => ?_, by simp⟩, fun a => by rw [e]⟩
  simp at hs
  subst hs
  exact ⟨min_lt_max, valid_min, valid_max⟩
end Go.Proofs.YtfkapannahcjiaaGreatDoor



/- What bounds.Of computes, in plain words: the set of places of a predicate at a path, and whether it is exact. -/
namespace Go.Proofs.YtfkapannahcjiaaGreatDoor
open Go.RowKit

/-- how long a string is without the bytes 255 at its end -/
def stripN (s : ByteArray) : Nat → Nat
  | 0 => 0
  | n + 1 => if s.data[n]? = some 255 then stripN s n else n + 1
/-- the least string above all strings with a prefix -/
def afterB (s : ByteArray) : Option ByteArray := match stripN s s.size with
  | 0 => none
  | n + 1 => some (s.extract 0 n ++ ⟨#[s.data[n]?.getD 0 + 1]⟩)
theorem stripN_le (s : ByteArray) : ∀ n, stripN s n ≤ n := by
  intro n
  induction n with
  | zero => exact Nat.le_refl _
  | succ n ih => unfold stripN; split <;> omega

/-- nothing but a kind -/
def vKd (k : Int) : Val := .mk k 0 ByteArray.empty [] []
def zero12 : ByteArray := ⟨#[0, 0, 0, 0, 0, 0, 0, 0, 0, 0, 0, 0]⟩
def leastV (k : Int) : Val := if k = 3 then .mk k (-9223372036854775808) ByteArray.empty [] [] else if k = 8 then .mk k 0 zero12 [] [] else vKd k
/-- the range of a kind -/
def rangeI (k : Int) : Iv :=
  if k = 3 ∨ k = 10 then ⟨leastV k, .mk k 9223372036854775807 ByteArray.empty [] [], true, true⟩
  else if k = 9 then ⟨leastV k, .mk k 1 ByteArray.empty [] [], true, true⟩
  else if k = 4 ∨ k = 5 ∨ k = 6 ∨ k = 7 ∨ k = 8 then ⟨leastV k, leastV (k + 1), true, false⟩
  else ⟨leastV k, leastV k, true, true⟩
/-- the interval of a comparison -/
def limI (op : Int) (x : Val) : Iv :=
  if op = 4 ∨ op = 5 then ⟨x, (rangeI x.k).hi, decide (op = 5), (rangeI x.k).hin⟩
  else ⟨(rangeI x.k).lo, x, (rangeI x.k).li, decide (op = 7)⟩
/-- the interval of a prefix -/
noncomputable def preI (x : Val) : Iv × Bool :=
  match afterB x.t with
  | some s => if validV (.mk 4 0 s [] []) = true then (⟨x, .mk 4 0 s [] [], true, false⟩, true) else (⟨x, vKd 5, true, false⟩, decide (x.t = ByteArray.empty))
  | none => (⟨x, vKd 5, true, false⟩, decide (x.t = ByteArray.empty))
/-- the intervals of an operator on the path; none: all values -/
noncomputable def leafI (op : Int) (arg : Val) (args : List Val) (n : Int) : Option (List Iv × Bool) :=
  if op = 2 then (if arg.k = 6 then none else some ([ptIv arg], decide (arg.k ≠ 2)))
  else if op = 4 ∨ op = 5 ∨ op = 6 ∨ op = 7 then (if arg.k = 6 then none else some ([limI op arg], decide (arg.k ≠ 2)))
  else if op = 8 then (if ∃ x ∈ args, x.k = 6 then none else some (args.map ptIv, decide (¬ ∃ x ∈ args, x.k = 2)))
  else if op = 16 then some ([(preI arg).1], (preI arg).2)
  else if op = 11 then (if n = 6 then none else some ([rangeI n], decide (n ≠ 2)))
  else none
/-- all places -/
def allS : Cut → Prop := fun a => inS cmC a (spansL [allIv])
abbrev PSet := (Cut → Prop) × Bool
noncomputable def leafS (op : Int) (arg : Val) (args : List Val) (n : Int) : PSet := match leafI op arg args n with
  | some r => (fun a => inS cmC a (spansL r.1), r.2)
  | none => (allS, false)
open Classical in
noncomputable def isAllB (S : Cut → Prop) : Bool := decide (∀ a, VC1 a → (S a ↔ allS a))
/-- the first that is not all -/
noncomputable def firstS : List PSet → PSet
  | [] => (allS, false)
  | r :: rs => if isAllB r.1 then firstS rs else (r.1, false)
noncomputable def andS (rs : List PSet) : PSet := match rs with
  | [r] => r
  | _ => firstS rs
noncomputable def orS (rs : List PSet) : PSet := if rs.any (fun r => isAllB r.1) then (allS, false) else (fun a => ∃ r ∈ rs, r.1 a, rs.all fun r => r.2)
noncomputable def ofS (l : List ByteArray) : PrT → PSet
  | .mk op path arg args n _ _ _ _ _ _ _ _ kids => if op = 20 then andS (ofSs l kids) else if op = 21 then orS (ofSs l kids) else if path.xs = l then leafS op arg.2 (args.xs.map Prod.snd) n else (allS, false)
where ofSs (l : List ByteArray) : List PrT → List PSet
  | [] => []
  | x :: r => ofS l x :: ofSs l r
theorem ofSs_map (l : List ByteArray) (ks : List PrT) : ofS.ofSs l ks = ks.map (ofS l) := by
  induction ks with
  | nil => rfl
  | cons x r ih => simp [ofS.ofSs, ih]
theorem ofS_eq (l : List ByteArray) (p : PrT) : ofS l p = if p.op = 20 then andS (p.kids.map (ofS l)) else if p.op = 21 then orS (p.kids.map (ofS l)) else if p.path.xs = l then leafS p.op p.arg.2 (p.args.xs.map Prod.snd) p.n else (allS, false) := by
  cases p
  simp only [ofS, ofSs_map]
  rfl
theorem ofS_and {l : List ByteArray} {p : PrT} (h : p.op = 20) : ofS l p = andS (p.kids.map (ofS l)) := by rw [ofS_eq, if_pos h]
theorem ofS_or {l : List ByteArray} {p : PrT} (h : p.op = 21) : ofS l p = orS (p.kids.map (ofS l)) := by rw [ofS_eq, if_neg (by omega), if_pos h]
theorem ofS_leaf {l : List ByteArray} {p : PrT} (h : p.op ≠ 20) (h' : p.op ≠ 21) (hp : p.path.xs = l) : ofS l p = leafS p.op p.arg.2 (p.args.xs.map Prod.snd) p.n := by rw [ofS_eq, if_neg h, if_neg h', if_pos hp]
theorem ofS_else {l : List ByteArray} {p : PrT} (h : p.op ≠ 20) (h' : p.op ≠ 21) (hp : p.path.xs ≠ l) : ofS l p = (allS, false) := by rw [ofS_eq, if_neg h, if_neg h', if_neg hp]

/-- how many intervals it may have -/
def PrT.sz : PrT → Nat
  | .mk _ _ _ args _ _ _ _ _ _ _ _ _ kids => 1 + args.n + szL kids
where szL : List PrT → Nat
  | [] => 0
  | x :: r => x.sz + szL r
theorem PrT.sz_eq (p : PrT) : p.sz = 1 + p.args.n + PrT.sz.szL p.kids := by cases p; rfl
theorem szL_ge {l : List PrT} {k : PrT} (h : k ∈ l) : k.sz ≤ PrT.sz.szL l := by
  induction l with
  | nil => cases h
  | cons x r ih =>
    simp only [PrT.sz.szL]
    rcases List.mem_cons.1 h with rfl | h
    · omega
    · have := ih h; omega
theorem szL_take (l : List PrT) (i : Nat) {k : PrT} (h : l[i]? = some k) : PrT.sz.szL (l.take (i + 1)) = PrT.sz.szL (l.take i) + k.sz := by
  induction l generalizing i with
  | nil => simp at h
  | cons x r ih =>
    cases i with
    | zero => simp at h; subst h; simp [PrT.sz.szL]
    | succ i =>
      have := ih i (by simpa using h)
      simp only [List.take_succ_cons, PrT.sz.szL] at *
      omega
theorem szL_take_le (l : List PrT) (i : Nat) : PrT.sz.szL (l.take i) ≤ PrT.sz.szL l := by
  induction l generalizing i with
  | nil => simp
  | cons x r ih =>
    cases i with
    | zero => simp [PrT.sz.szL]
    | succ i => have := ih i; simp only [List.take_succ_cons, PrT.sz.szL]; omega
theorem sz_le {w : World} : ∀ {p : PrT}, WP w p → p.sz ≤ p.nodes * 1048577 := by
  intro p
  induction p using PrT.ind with
  | h p ih =>
    intro h
    have o := h.open
    rw [p.sz_eq, p.nodes_eq]
    have key : ∀ l : List PrT, (∀ k ∈ l, k.sz ≤ k.nodes * 1048577) → PrT.sz.szL l ≤ PrT.nodes.nodesL l * 1048577 := by
      intro l
      induction l with
      | nil => intro _; simp [PrT.sz.szL]
      | cons x r ihl =>
        intro hl
        have h1 := hl x (by simp)
        have h2 := ihl fun k hk => hl k (by simp [hk])
        simp only [PrT.sz.szL, PrT.nodes.nodesL, Nat.add_mul]
        omega
    have := key p.kids fun k hk => ih k hk (o.kids k hk)
    have := o.few
    rw [Nat.add_mul]
    omega

/-- what a valid predicate owes to bounds.Of -/
def VPr : PrT → Prop
  | .mk op _ arg args n _ _ _ _ _ _ _ _ kids =>
    (op = 2 ∨ op = 4 ∨ op = 5 ∨ op = 6 ∨ op = 7 ∨ op = 16 → validV arg.2 = true) ∧ (op = 8 → ∀ x ∈ args.xs, validV x.2 = true) ∧ (op = 16 → arg.2.k = 4) ∧ (op = 11 → 1 ≤ n ∧ n ≤ 11) ∧
      (op = 20 ∨ op = 21 → kids ≠ []) ∧ (op = 20 ∨ op = 21 → VPs kids)
where VPs : List PrT → Prop
  | [] => True
  | x :: r => VPr x ∧ VPs r
theorem vps_iff {l : List PrT} : VPr.VPs l ↔ ∀ k ∈ l, VPr k := by
  induction l with
  | nil => simp [VPr.VPs]
  | cons y r ih => simp [VPr.VPs, ih]
structure VPo (p : PrT) : Prop where
  arg : p.op = 2 ∨ p.op = 4 ∨ p.op = 5 ∨ p.op = 6 ∨ p.op = 7 ∨ p.op = 16 → validV p.arg.2 = true
  args : p.op = 8 → ∀ x ∈ p.args.xs, validV x.2 = true
  text : p.op = 16 → p.arg.2.k = 4
  kind : p.op = 11 → 1 ≤ p.n ∧ p.n ≤ 11
  ne : p.op = 20 ∨ p.op = 21 → p.kids ≠ []
  kids : p.op = 20 ∨ p.op = 21 → ∀ k ∈ p.kids, VPr k
theorem VPr.open {p : PrT} (h : VPr p) : VPo p := by
  cases p
  obtain ⟨h1, h2, h3, h4, h5, h6⟩ := h
  exact ⟨h1, h2, h3, h4, h5, fun h => vps_iff.1 (h6 h)⟩
theorem VPo.shut {p : PrT} (h : VPo p) : VPr p := by
  cases p
  exact ⟨h.arg, h.args, h.text, h.kind, h.ne, fun h' => vps_iff.2 (h.kids h')⟩

open Classical in
theorem isAllB_true {S : Cut → Prop} : isAllB S = true ↔ ∀ a, VC1 a → (S a ↔ allS a) := by
  unfold isAllB
  exact decide_eq_true_iff
/-- the list of a normal form is All's exactly if its set is all -/
theorem nf_isAll {S : Cut → Prop} {n : List (Cut × Cut)} (h : IsNF S n) : (n = [((vMin, false), (vMax, true))]) ↔ isAllB S = true := by
  rw [isAllB_true]
  constructor
  · rintro rfl a _
    rw [← h.2 a]
    exact all_nf.2 a
  · intro k
    exact h.unique all_nf k
end Go.Proofs.YtfkapannahcjiaaGreatDoor


