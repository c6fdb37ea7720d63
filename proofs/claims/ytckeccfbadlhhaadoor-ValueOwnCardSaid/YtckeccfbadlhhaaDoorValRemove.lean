/- The contract of value.Remove. -/
import Derived.Test.YtckeccfbadlhhaaDoorValDelete
namespace Go.Proofs.YtckeccfbadlhhaaDoor
open Go.RowKit

/-- what Remove computes -/
def remW (x : Val) (name : ByteArray) : Val := if findI x name < 0 then x else .mk x.k x.n x.t x.l (x.d.eraseIdx (findI x name).toNat)

theorem map_erase {α β : Type} (f : α → β) (l : List α) (j : Nat) : (l.eraseIdx j).map f = (l.map f).eraseIdx j := by
  rw [List.eraseIdx_eq_take_drop_succ, List.eraseIdx_eq_take_drop_succ, List.map_append, List.map_take, List.map_drop]

theorem Cl.blk {lo mid : Nat} {w : World} {c : VC} {x : Val} (h : Cl lo mid w c x) (hn : 0 < c.dn) : ∃ (g : Nat) (fs : List PF), c.DA = some ⟨g, 0, none⟩ ∧ mid ≤ g ∧ fs.map Prod.snd = x.d ∧ fs.length = c.dn ∧ Blk w g 42 (flat recF fs).toArray ∧ ∀ p ∈ fs, p.2.s.size ≤ reach ∧ RV (fun b => g < b ∧ b < w.heap.size) w p.1 p.2.v := by
  obtain ⟨g, hA, hg, hrow, hel⟩ := h.da hn
  obtain ⟨fs, h1, h2⟩ := choose_list (p := fun i (f : Fld) (v : VC) => w.cell? ⟨g, i * 6, none⟩ = some (.string f.s) ∧ f.s.size ≤ reach ∧ VAt w g (i * 6 + 1) v ∧ RV (fun b => g < b) w v f.v) (l := x.d) (fun i f hf => by
    obtain ⟨h1, h2, v, h3, h4⟩ := hel i f hf
    exact ⟨v, h1, h2, h3, h4⟩)
  have hl : fs.length = c.dn := by rw [h.dn, ← h1]; simp
  have hb : Blk w g 42 (flat recF fs).toArray := blk_of_row recF_length (by omega) (by rw [hl]; exact hrow) (fun j p hp i v hv => by
    obtain ⟨k0, _, k1, _⟩ := h2 j p hp
    cases i with
    | zero => simp [recF] at hv; subst hv; exact k0
    | succ i =>
      have := vat_cell k1 i v (by simpa [recF] using hv)
      rw [show j * 6 + (i + 1) = j * 6 + 1 + i by omega]
      exact this)
  refine ⟨g, fs, hA, hg, h1, hl, hb, fun p hp => ?_⟩
  obtain ⟨i, hi⟩ := List.getElem?_of_mem hp
  obtain ⟨_, k2, _, k4⟩ := h2 i p hi
  exact ⟨k2, k4.lt⟩

/-- the blocks of Remove -/
structure SrI (w : World) (r : VC) (g5 : Nat) (wr : World) : Prop where
  b2 : Blk wr (w.heap.size + 1) 25 VC.zero.arr
  b5 : Blk wr g5 25 r.arr
  hg : w.heap.size + 2 ≤ g5
  bel : Below w.heap.size w wr
theorem SrI.step {w : World} {r : VC} {g5 : Nat} {wr w' : World} (h : SrI w r g5 wr) (hb : Below wr.heap.size wr w') : SrI w r g5 w' := ⟨h.b2.step hb, h.b5.step hb, h.hg, h.bel.step' hb⟩
/-- before the result is laid -/
structure RmD (w : World) (r : VC) (g5 : Nat) (y : Val) (wr : World) : Prop where
  i : SrI w r g5 wr
  rv : RV (fun b => w.heap.size + 2 ≤ b) wr r y
theorem RmD.done {w : World} {r : VC} {g5 : Nat} {y : Val} {wr : World} (h : RmD w r g5 y wr) : SetOk y w (.returned r.val) (setV wr (w.heap.size + 1) 0 r) :=
  ⟨r, rfl, (h.rv.keepG (G := fun b => w.heap.size ≤ b) (w' := setV wr (w.heap.size + 1) 0 r) fun b hb _ => ⟨by omega, heap_setV (by omega)⟩), below_setV h.i.bel (by omega) _ _⟩

theorem RmD.cut {w w1 w2 w3 : World} {rk rn : Int} {rt : ByteArray} {rLA : Option Addr} {rln rlc n g5 gD mid j : Nat} {x : Val} {fs : List PF}
    (hI : SrI w ⟨rk, rn, rt, rLA, rln, rlc, some ⟨gD, 0, none⟩, n, n⟩ g5 w2) (hC : Cl (w.heap.size + 2) mid w1 ⟨rk, rn, rt, rLA, rln, rlc, some ⟨gD, 0, none⟩, n, n⟩ x) (hg5 : g5 = w1.heap.size) (hb12 : Below w1.heap.size w1 w2)
    (hgD : mid ≤ gD) (hfs : fs.map Prod.snd = x.d) (hfl : fs.length = n) (hbl : Blk w1 gD 42 (flat recF fs).toArray) (hrv : ∀ p ∈ fs, p.2.s.size ≤ reach ∧ RV (fun b => gD < b ∧ b < w1.heap.size) w1 p.1 p.2.v) (hj : j < n)
    (hb3 : Blk w3 gD 42 (flat recF (fs.eraseIdx j) ++ recF zeroF).toArray) (hbut : But gD w2 w3) :
    RmD w ⟨rk, rn, rt, rLA, rln, rlc, some ⟨gD, 0, none⟩, n - 1, n⟩ g5 (.mk x.k x.n x.t x.l (x.d.eraseIdx j)) (w3.setCell ⟨g5, 4, none⟩ (.slice (some ⟨gD, 0, none⟩) (n - 1) n)) := by
  have hlt := hbl.lt
  have hmid := hC.hmid
  have h5 := hI.hg
  have sz := hb12.size
  have sz2 := hbut.size
  have keep : ∀ b, b < w2.heap.size → b ≠ g5 → b ≠ gD → (w3.setCell ⟨g5, 4, none⟩ (.slice (some ⟨gD, 0, none⟩) (n - 1) n)).heap[b]? = w2.heap[b]? := fun b h1 h2 h3 => by
    rw [Below.heap_setCell _ _ _ _ h2]
    exact hbut.block b h1 h3
  have keep1 : ∀ b, b < w1.heap.size → b ≠ gD → (w3.setCell ⟨g5, 4, none⟩ (.slice (some ⟨gD, 0, none⟩) (n - 1) n)).heap[b]? = w1.heap[b]? := fun b h1 h3 => by
    rw [keep b (by omega) (by omega) h3]
    exact hb12.block b h1
  refine ⟨⟨?_, ?_, h5, ?_⟩, ?_⟩
  · exact (hI.b2.but hbut (by omega)).far (by show w.heap.size + 1 ≠ g5; omega) _
  · exact ((hI.b5.but hbut (by omega)).set_ 4 _)
  · exact (hI.bel.trans (hbut.below hI.bel.size (by omega))).setCell (by show w.heap.size ≤ g5; omega) _
  · obtain ⟨ps, hps, hsl⟩ := hC.lst
    have hsl' : SL (fun b => w.heap.size + 2 ≤ b) (w3.setCell ⟨g5, 4, none⟩ (.slice (some ⟨gD, 0, none⟩) (n - 1) n)) rLA rln rlc ps := hsl.keepG fun b hb hl => ⟨hb.1.1, keep1 b hl (fun e => hb.1.2 (by rw [e]; rfl))⟩
    have hb4 := hb3.far (p := ⟨g5, 4, none⟩) (by show gD ≠ g5; omega) (.slice (some ⟨gD, 0, none⟩) (n - 1) n)
    have hel : (fs.eraseIdx j).length = n - 1 := by rw [List.length_eraseIdx_of_lt (by omega)]; omega
    have hdz := hC.dsz
    simp only at hdz
    have hsd : SD (fun b => w.heap.size + 2 ≤ b) (w3.setCell ⟨g5, 4, none⟩ (.slice (some ⟨gD, 0, none⟩) (n - 1) n)) (some ⟨gD, 0, none⟩) (n - 1) n (fs.eraseIdx j) := by
      refine ⟨⟨hel.symm, by omega, fun _ => ⟨gD, 0, rfl, hb4.lt, fun i a hi q v hq => ?_⟩⟩, by omega, fun _ => ⟨gD, 0, rfl, by omega, fun _ => hb4.frozen⟩, fun p hp => (hrv p (List.mem_of_mem_eraseIdx hp)).1, fun p hp => ?_⟩
      · have hg := flat_get recF_length hi hq
        rw [Nat.zero_add, hb4.cell, List.getElem?_toArray, List.getElem?_append_left (List.getElem?_eq_some_iff.1 hg).1]
        exact hg
      · exact (hrv p (List.mem_of_mem_eraseIdx hp)).2.keepG fun b hb hl => ⟨by omega, keep1 b hl (by omega)⟩
    have := RV.of_slices (k := rk) (m := rn) (t := rt) (by have := hC.t; simp only at this; rw [this]; exact hC.tsz) hsl' hsd
    have e1 := hC.k
    have e2 := hC.n
    have e3 := hC.t
    simp only at e1 e2 e3
    rw [hps, map_erase, hfs] at this
    subst e1 e2 e3
    exact this

set_option maxRecDepth 100000 in
set_option maxHeartbeats 2000000 in
theorem remove_any (x : Val) (c : VC) (name : ByteArray) (w : World) (h : RW w c x) :
    Calls Tryd.prog 30 #[c.val, .string name] w (SetOk (remW x name) w) := by
  have H := Lib.hid h
  clear h
  go_enter Tryd.func30, Tryd.ntmps30
  go_wp2_with fail
  have A2 : Below w.heap.size w ((w.alloc (Obj.cells c.arr 25)).alloc (Obj.cells VC.zero.arr 25)) := ((Below.refl _ _).alloc (Nat.le_refl _) _).alloc (by simp) _
  have s2 : ((w.alloc (Obj.cells c.arr 25)).alloc (Obj.cells VC.zero.arr 25)).heap.size = w.heap.size + 2 := by simp
  have B2 : Blk ((w.alloc (Obj.cells c.arr 25)).alloc (Obj.cells VC.zero.arr 25)) (w.heap.size + 1) 25 VC.zero.arr := Blk.new_at (by simp)
  refine (clone_any x c _ (H.out.step A2)).mono ?_
  rintro e1 w1 ⟨r, mid, rfl, hcl, hb1⟩
  rw [s2] at hcl
  have I1 : SrI w r w1.heap.size (w1.alloc (Obj.cells r.arr 25)) := ⟨(B2.step hb1).alloc _, Blk.new_at rfl, by have := hb1.size; rw [s2] at this; exact this, (A2.step' hb1).alloc (A2.step' hb1).size _⟩
  have C1 := Lib.hid hcl
  have R1 := Lib.hid (hcl.rv.mono (G := fun _ => True) fun _ _ => trivial)
  have J1 := Lib.hid I1
  clear hcl I1 A2 B2 s2 hb1
  go_wp2_with fail
  refine (find_any x r name _ (R1.out.alloc _)).mono ?_
  rintro e2 w2 ⟨rfl, hb2⟩
  have hA1 := (Below.refl w1.heap.size w1).alloc (Nat.le_refl _) (Obj.cells r.arr 25)
  have J2 := Lib.hid (J1.out.step hb2)
  have HB12 := Lib.hid (hA1.step' hb2)
  clear hb2 hA1 R1 J1
  rcases findI_range x name with hf | ⟨j, hf, f, hj⟩
  · have HR : Hid (remW x name = x) := by rw [Hid]; unfold remW; rw [if_pos (by omega)]
    rw [hf]
    clear hf
    have D2 : Hid (RmD w r w1.heap.size x w2) := Lib.hid ⟨J2.out, C1.out.rv.step HB12.out⟩
    obtain ⟨g5, hg5⟩ : ∃ g, g = w1.heap.size := ⟨_, rfl⟩
    rw [← hg5] at D2 ⊢
    clear hg5
    obtain ⟨a0, a1, a2, a3, a4⟩ := VAt.of_blk D2.out.i.b5
    obtain ⟨b0, b1, b2, b3, b4⟩ := VAt.of_blk D2.out.i.b2
    have z := D2.out.i.b2.frozen
    go_wp2_with fail
    have q := VAt.of_blk (D2.out.i.b2.putV r)
    refine bodyPost_ret (results_val rfl _ _ _ rfl _ r q) rfl ?_
    rw [HR.out]
    exact D2.out.done
  · have hjl := (List.getElem?_eq_some_iff.1 hj).1
    have HR : Hid (remW x name = .mk x.k x.n x.t x.l (x.d.eraseIdx j)) := by rw [Hid]; unfold remW; rw [if_neg (by omega), hf]; rfl
    have hdn := C1.out.dn
    have hdc := C1.out.dc
    have hdz := C1.out.dsz
    obtain ⟨gD, fs, hDA, hgD, hfs, hfl, hbl, hrv⟩ := C1.out.blk (by omega)
    obtain ⟨rk, rn, rt, rLA, rln, rlc, rDA, rdn, rdc⟩ := r
    simp only at hdn hdc hDA hfl hdz
    obtain rfl : rdc = rdn := hdc
    subst hDA
    rw [hf]
    have hjn : j < rdc := by omega
    have hdz' : rdc * 96 ≤ 140737488355328 := hdz
    have HZ := Lib.hid hdz
    have HFS := Lib.hid hfs
    have HFL := Lib.hid hfl
    have HBL := Lib.hid hbl
    have HRV := Lib.hid hrv
    obtain ⟨g5, hg5⟩ : ∃ g, g = w1.heap.size := ⟨_, rfl⟩
    have hglt : gD < g5 := by rw [hg5]; exact hbl.lt
    have HG5 := Lib.hid hg5
    rw [← hg5] at J2 ⊢
    have hlo : w.heap.size + 2 ≤ gD := by have := C1.out.hmid; omega
    clear hf hj hjl hdn hfs hfl hbl hrv hg5 hdz
    have q4 := J2.out.b5.cell 4
    simp at q4
    have hne : gD ≠ g5 := by omega
    have l5 := J2.out.b5.lt
    go_wp2_with fail
    refine (delete_any fs gD rdc j _ w2 (HBL.out.step HB12.out) HFL.out.symm hjn HZ.out (by first | rfl | go_num)).mono ?_
    rintro e3 w3 ⟨rfl, hb3, hbut⟩
    have q5 := (J2.out.b5.but hbut (by omega)).cell 4
    have z5 := (J2.out.b5.but hbut (by omega)).frozen
    simp at q5
    have HD := Lib.hid (RmD.cut (j := j) J2.out C1.out HG5.out HB12.out hgD HFS.out HFL.out HBL.out HRV.out hjn hb3 hbut)
    rw [HFL.out]
    have l3 : g5 < w3.heap.size := by have := hbut.size; omega
    clear hb3 hbut q4
    go_upto_region 5 with fail
    generalize w3.setCell ⟨g5, 4, none⟩ (.slice (some ⟨gD, 0, none⟩) (rdc - 1) rdc) = w4 at *
    clear q5 z5
    obtain ⟨a0, a1, a2, a3, a4⟩ := VAt.of_blk HD.out.i.b5
    obtain ⟨b0, b1, b2, b3, b4⟩ := VAt.of_blk HD.out.i.b2
    have z := HD.out.i.b2.frozen
    go_wp2_with fail
    have q := VAt.of_blk (HD.out.i.b2.putV ⟨rk, rn, rt, rLA, rln, rlc, some ⟨gD, 0, none⟩, rdc - 1, rdc⟩)
    refine bodyPost_ret (results_val rfl _ _ _ rfl _ ⟨rk, rn, rt, rLA, rln, rlc, some ⟨gD, 0, none⟩, rdc - 1, rdc⟩ q) rfl ?_
    rw [HR.out]
    exact HD.out.done

end Go.Proofs.YtckeccfbadlhhaaDoor
