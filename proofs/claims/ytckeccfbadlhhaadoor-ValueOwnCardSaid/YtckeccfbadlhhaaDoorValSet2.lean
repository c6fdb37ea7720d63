/- The contract of value.Set at any document, name and value. -/
import Derived.Test.YtckeccfbadlhhaaDoorValSet
namespace Go.Proofs.YtckeccfbadlhhaaDoor
open Go.RowKit

/-- the fields with the value at place j replaced -/
def putD (d : List Fld) (j : Nat) (v : Val) : List Fld := d.mapIdx fun i f => if i = j then .mk f.s v else f
def putV (x : Val) (j : Nat) (v : Val) : Val := .mk x.k x.n x.t x.l (putD x.d j v)
/-- what Set computes -/
def setW (x : Val) (name : ByteArray) (v : Val) : Val := if x.k = 5 then (if findI x name < 0 then addV x name v else putV x (findI x name).toNat v) else x
theorem putD_get (d : List Fld) (j : Nat) (v : Val) (i : Nat) : (putD d j v)[i]? = (d[i]?).map fun f => if i = j then .mk f.s v else f := by
  simp [putD, List.getElem?_mapIdx]
theorem putD_length (d : List Fld) (j : Nat) (v : Val) : (putD d j v).length = d.length := by simp [putD]

theorem AddD.put {w w1 w2 w3 : World} {e r c2 : VC} {g7 mid mid2 gD j : Nat} {x v : Val} (hI : SeI w e r g7 w2) (hC1 : Cl (w.heap.size + 3) mid w1 r x) (hg7 : g7 = w1.heap.size) (hb12 : Below w1.heap.size w1 w2) (hb3 : Below w2.heap.size w2 w3)
    (hc2 : Cl w2.heap.size mid2 w3 c2 v) (hD : r.DA = some ⟨gD, 0, none⟩) (hn : 0 < r.dn) : AddD w r g7 (putV x j v) (setV w3 gD (j * 6 + 1) c2) := by
  have hC := (hC1.step hb12).step hb3
  obtain ⟨g, h1, h2, h3, h4⟩ := hC.da hn
  rw [hD] at h1
  cases h1
  have hlt : gD < w1.heap.size := by
    obtain ⟨g', h1', _, h3', _⟩ := hC1.da hn
    rw [hD] at h1'
    cases h1'
    exact h3'.lt
  have hm := hC.hmid
  have h7 := hI.hg
  have sz := hb12.size
  have I3 := hI.step hb3
  refine ⟨I3.b2.farV (by omega) _ _, I3.b7.farV (by omega) _ _, below_setV I3.bel (by omega) _ _, RVs.shut ⟨hC.k, hC.n, hC.t, hC.tsz, hC.ln, by have := hC.lc; omega, hC.lsz, fun hl => ?_, by show _ = (putD x.d j v).length; rw [putD_length]; exact hC.dn, by have := hC.dc; omega, hC.dsz, fun _ => ⟨gD, 0, hD, ⟨by omega, fun _ => (h3.putV gD (j * 6 + 1) c2).frozen⟩, fun i f hi => ?_⟩⟩⟩
  · obtain ⟨g, e1, e2, e3, e4, e5⟩ := hC.la hl
    refine ⟨g, 0, e1, ⟨e2, fun _ => (e4.putV gD (j * 6 + 1) c2).frozen⟩, fun i y hi => ?_⟩
    obtain ⟨u, k1, k2⟩ := e5 i y hi
    exact ⟨u, by rw [Nat.zero_add]; exact k1.keep (heap_setV (by omega)), k2.keepG fun b hb _ => ⟨by omega, heap_setV (by omega)⟩⟩
  · have hi' : (putD x.d j v)[i]? = some f := hi
    rw [putD_get] at hi'
    obtain ⟨f0, hf0, rfl⟩ := Option.map_eq_some_iff.1 hi'
    obtain ⟨k0, kz, u, k1, k2⟩ := h4 i f0 hf0
    have hil : i < r.dn := by rw [hC.dn]; exact (List.getElem?_eq_some_iff.1 hf0).1
    rw [Nat.zero_add]
    by_cases hij : i = j
    · subst hij
      rw [if_pos rfl]
      refine ⟨(cell_setV_far (by omega)).trans k0, kz, c2, VAt.of_setV fun q hq => h3.cell (by omega), hc2.rv.keepG fun b hb _ => ⟨by omega, heap_setV (by omega)⟩⟩
    · rw [if_neg hij]
      exact ⟨(cell_setV_far (by omega)).trans k0, kz, u, k1.setV_far (by omega), k2.keepG fun b hb _ => ⟨by omega, heap_setV (by omega)⟩⟩

set_option maxRecDepth 100000 in
set_option maxHeartbeats 2000000 in
theorem set_old (x v : Val) (c e : VC) (name : ByteArray) (w : World) (h : RW w c x) (he : RW w e v) (hk : x.k = 5) (j : Nat) (hf : findI x name = j) (hj : j < x.d.length) :
    Calls Tryd.prog 28 #[c.val, .string name, e.val] w (SetOk (putV x j v) w) := by
  have H := Lib.hid h
  have HE := Lib.hid he
  have HK := Lib.hid hk
  have HF := Lib.hid hf
  have HJ := Lib.hid hj
  clear h he hk hf hj
  go_enter Tryd.func28, Tryd.ntmps28
  go_wp2_with fail
  have A3 : Below w.heap.size w (((w.alloc (Obj.cells c.arr 25)).alloc (Obj.cells e.arr 25)).alloc (Obj.cells VC.zero.arr 25)) := (((Below.refl _ _).alloc (Nat.le_refl _) _).alloc (by simp) _).alloc (by simp; omega) _
  have s3 : (((w.alloc (Obj.cells c.arr 25)).alloc (Obj.cells e.arr 25)).alloc (Obj.cells VC.zero.arr 25)).heap.size = w.heap.size + 3 := by simp
  have B1 : Blk (((w.alloc (Obj.cells c.arr 25)).alloc (Obj.cells e.arr 25)).alloc (Obj.cells VC.zero.arr 25)) (w.heap.size + 1) 25 e.arr := (Blk.new_at (by simp)).alloc _
  have B2 : Blk (((w.alloc (Obj.cells c.arr 25)).alloc (Obj.cells e.arr 25)).alloc (Obj.cells VC.zero.arr 25)) (w.heap.size + 1 + 1) 25 VC.zero.arr := Blk.new_at (by simp)
  refine (clone_any x c _ (H.out.step A3)).mono ?_
  rintro e1 w1 ⟨r, mid, rfl, hcl, hb1⟩
  rw [s3] at hcl
  have hrk : r.k = 5 := hcl.k.trans HK.out
  have hdn : j < r.dn := by rw [hcl.dn]; exact HJ.out
  have hdz : r.dn * 96 ≤ 140737488355328 := hcl.dsz
  obtain ⟨gD, hgD, hgm, hrow, _⟩ := hcl.da (by omega)
  obtain ⟨rk, rn, rt, rLA, rln, rlc, rDA, rdn, rdc⟩ := r
  simp only at hrk hgD hdn hrow hdz
  subst hrk hgD
  have I1 : SeI w e ⟨5, rn, rt, rLA, rln, rlc, some ⟨gD, 0, none⟩, rdn, rdc⟩ w1.heap.size (w1.alloc (Obj.cells #[.int .i64 5, .int .i64 rn, .string rt, .slice rLA rln rlc, .slice (some ⟨gD, 0, none⟩) rdn rdc] 25)) :=
    ⟨(B1.step hb1).alloc _, (B2.step hb1).alloc _, Blk.new_at rfl, by have := hb1.size; rw [s3] at this; exact this, (A3.step' hb1).alloc (A3.step' hb1).size _⟩
  have C1 := Lib.hid hcl
  have R1 := Lib.hid (hcl.rv.mono (G := fun _ => True) fun _ _ => trivial)
  have J1 := Lib.hid I1
  have E1 := Lib.hid (HE.out.step (A3.step' hb1))
  have hgl : gD < w1.heap.size := hrow.lt
  have hgl3 : w.heap.size + 3 ≤ gD := by have := hcl.hmid; omega
  have HRow := Lib.hid hrow
  clear hcl I1 A3 B1 B2 s3 hb1 hrow
  go_wp2_with fail
  refine (find_any x _ name _ (R1.out.alloc _)).mono ?_
  rintro e2 w2 ⟨rfl, hb2⟩
  rw [HF.out]
  have hA1 := (Below.refl w1.heap.size w1).alloc (Nat.le_refl _) (Obj.cells #[.int .i64 5, .int .i64 rn, .string rt, .slice rLA rln rlc, .slice (some ⟨gD, 0, none⟩) rdn rdc] 25)
  have J2 := Lib.hid (J1.out.step hb2)
  have HB12 := Lib.hid (hA1.step' hb2)
  have HRow2 := Lib.hid ((HRow.out.step hA1).step hb2)
  have E2 := Lib.hid ((E1.out.step hA1).step hb2)
  obtain ⟨g7, hg7⟩ : ∃ g, g = w1.heap.size := ⟨_, rfl⟩
  have HG7 := Lib.hid hg7
  rw [← hg7] at J2 hgl ⊢
  clear hb2 hA1 R1 J1 E1 hg7 HRow
  have q4 := J2.out.b7.cell 4
  obtain ⟨v0, v1, v2, v3, v4⟩ := VAt.of_blk J2.out.b1
  simp at q4
  simp only [Nat.zero_add] at v1 v2 v3 v4
  have hi0 : (0 : Int) ≤ (j : Int) := by omega
  have hi1 : (j : Int) < (rdn : Int) := by omega
  have l2 := J2.out.b7.lt
  have hg3 := J2.out.hg
  have hne1 : gD ≠ g7 := by omega
  have hne2 : gD ≠ w.heap.size + 1 := by omega
  go_upto_region 6 with fail
  go_region_held3 (fun w' => w'.cell? ⟨g7, 4, none⟩ = some (.slice (some ⟨gD, 0, none⟩) rdn rdc) ∧ w'.cell? ⟨w.heap.size + 1, 0, none⟩ = some (.int .i64 e.k) ∧ w'.cell? ⟨w.heap.size + 1, 1, none⟩ = some (.int .i64 e.n) ∧ w'.cell? ⟨w.heap.size + 1, 2, none⟩ = some (.string e.t) ∧ w'.cell? ⟨w.heap.size + 1, 3, none⟩ = some (.slice e.LA e.ln e.lc) ∧ w'.cell? ⟨w.heap.size + 1, 4, none⟩ = some (.slice e.DA e.dn e.dc))
    (first | go_keep | exact ⟨s0, s1, s2, s3, s4, s5⟩ | ((try dsimp only); repeat' apply And.intro; all_goals go_keep))
    ((go_at_call 46; refine (clone_any v e _ (E2.out.drewN 1)).mono ?_; rintro e3 w3 ⟨c2, mid2, rfl, hcl2, hb3⟩; replace hb3 : Below w2.heap.size w2 w3 := hb3.undrewN; replace hcl2 : Cl w2.heap.size mid2 w3 c2 v := hcl2; have s0 := (hb3.cell (p := ⟨g7, 4, none⟩) J2.out.b7.lt).trans q4; have s1 := (hb3.cell (p := ⟨w.heap.size + 1, 0, none⟩) J2.out.b1.lt).trans v0; have s2 := (hb3.cell (p := ⟨w.heap.size + 1, 1, none⟩) J2.out.b1.lt).trans v1; have s3 := (hb3.cell (p := ⟨w.heap.size + 1, 2, none⟩) J2.out.b1.lt).trans v2; have s4 := (hb3.cell (p := ⟨w.heap.size + 1, 3, none⟩) J2.out.b1.lt).trans v3; have s5 := (hb3.cell (p := ⟨w.heap.size + 1, 4, none⟩) J2.out.b1.lt).trans v4; have row : Row w3 gD 42 (rdn * 6) := HRow2.out.step hb3; have z := row.frozen; obtain ⟨o0, p0⟩ := row.cell (i := j * 6 + 1) (by omega); obtain ⟨o1, p1⟩ := row.cell (i := j * 6 + 1 + 1) (by omega); obtain ⟨o2, p2⟩ := row.cell (i := j * 6 + 1 + 2) (by omega); obtain ⟨o3, p3⟩ := row.cell (i := j * 6 + 1 + 3) (by omega); obtain ⟨o4, p4⟩ := row.cell (i := j * 6 + 1 + 4) (by omega); have HC3 := Lib.hid hcl2; have HB3 := Lib.hid hb3; clear hcl2 hb3 row))
  all_goals
    obtain ⟨w5, hw5, HD⟩ : ∃ w5, setV w3 gD (j * 6 + 1) c2 = w5 ∧ Hid (AddD w ⟨5, rn, rt, rLA, rln, rlc, some ⟨gD, 0, none⟩, rdn, rdc⟩ g7 (putV x j v) w5) := ⟨_, rfl, Lib.hid (AddD.put (j := j) J2.out C1.out HG7.out HB12.out HB3.out HC3.out rfl (by show 0 < rdn; omega))⟩
    unfold setV at hw5
    rw [hw5]
    clear hw5 s0 s1 s2 s3 s4 s5 q4 v0 v1 v2 v3 v4 p0 p1 p2 p3 p4 z
    obtain ⟨a0, a1, a2, a3, a4⟩ := VAt.of_blk HD.out.b7
    obtain ⟨b0, b1, b2, b3, b4⟩ := VAt.of_blk HD.out.b2
    have z7 := HD.out.b2.frozen
    go_wp2_with fail
    have q := VAt.of_blk (HD.out.b2.putV ⟨5, rn, rt, rLA, rln, rlc, some ⟨gD, 0, none⟩, rdn, rdc⟩)
    refine bodyPost_ret (results_val rfl _ _ _ rfl _ ⟨5, rn, rt, rLA, rln, rlc, some ⟨gD, 0, none⟩, rdn, rdc⟩ q) rfl ?_
    exact HD.out.done

set_option maxRecDepth 100000 in
set_option maxHeartbeats 2000000 in
theorem set_none (x : Val) (c e : VC) (name : ByteArray) (w : World) (h : RW w c x) (hk : x.k ≠ 5) :
    Calls Tryd.prog 28 #[c.val, .string name, e.val] w (SetOk x w) := by
  have H := Lib.hid h
  have HK := Lib.hid hk
  clear h hk
  go_enter Tryd.func28, Tryd.ntmps28
  go_wp2_with fail
  have A3 : Below w.heap.size w (((w.alloc (Obj.cells c.arr 25)).alloc (Obj.cells e.arr 25)).alloc (Obj.cells VC.zero.arr 25)) := (((Below.refl _ _).alloc (Nat.le_refl _) _).alloc (by simp) _).alloc (by simp; omega) _
  have s3 : (((w.alloc (Obj.cells c.arr 25)).alloc (Obj.cells e.arr 25)).alloc (Obj.cells VC.zero.arr 25)).heap.size = w.heap.size + 3 := by simp
  have B2 : Blk (((w.alloc (Obj.cells c.arr 25)).alloc (Obj.cells e.arr 25)).alloc (Obj.cells VC.zero.arr 25)) (w.heap.size + 1 + 1) 25 VC.zero.arr := Blk.new_at (by simp)
  refine (clone_any x c _ (H.out.step A3)).mono ?_
  rintro e1 w1 ⟨r, mid, rfl, hcl, hb1⟩
  rw [s3] at hcl
  have hrk : (r.k != 5) = true := by rw [hcl.k]; have := HK.out; simp [this]
  have D1 : Hid (AddD w r w1.heap.size x (w1.alloc (Obj.cells r.arr 25))) :=
    Lib.hid ⟨(B2.step hb1).alloc _, Blk.new_at rfl, (A3.step' hb1).alloc (A3.step' hb1).size _, hcl.rv.alloc _⟩
  clear hcl hb1 A3 s3 B2
  go_upto_region 2 with fail
  generalize w1.alloc (Obj.cells r.arr 25) = w2 at *
  generalize w1.heap.size = g7 at *
  have hz := D1.out.b2.frozen
  obtain ⟨b0, b1, b2, b3, b4⟩ := VAt.of_blk D1.out.b2
  obtain ⟨a0, a1, a2, a3, a4⟩ := VAt.of_blk D1.out.b7
  go_wp2_with fail
  have q := VAt.of_blk (D1.out.b2.putV r)
  refine bodyPost_ret (results_val rfl _ _ _ rfl _ r q) rfl ?_
  exact D1.out.done

theorem set_any (x v : Val) (c e : VC) (name : ByteArray) (w : World) (h : RW w c x) (he : RW w e v) (hn : name.size ≤ reach) (hbig : (x.d.length + 1) * 96 ≤ reach) :
    Calls Tryd.prog 28 #[c.val, .string name, e.val] w (SetOk (setW x name v) w) := by
  unfold setW
  by_cases hk : x.k = 5
  · rw [if_pos hk]
    rcases findI_range x name with hf | ⟨j, hf, f, hj⟩
    · rw [if_pos (by omega)]
      exact set_new x v c e name w h he hk hf hn hbig
    · rw [if_neg (by omega), hf]
      exact set_old x v c e name w h he hk j hf (List.getElem?_eq_some_iff.1 hj).1
  · rw [if_neg hk]
    exact set_none x c e name w h hk

end Go.Proofs.YtckeccfbadlhhaaDoor
