/- The contract of chunks.Mark. Printed by gen_chchange.py. · The contract of chunks.Give. Printed by gen_chchange.py. · The contract of chunks.Join. Printed by gen_chchange.py. -/
import Derived.Test.YtgcklgkhdokchaaDoorChBaseB
namespace Go.Proofs.YtgcklgkhdokchaaDoor
open Go.RowKit

set_option maxRecDepth 100000 in
set_option maxHeartbeats 800000 in
theorem mark_any (R : Ro) (a : RA) (key : ByteArray) (j : Bool) (w : World) (h : RR w a R) : Calls Tryd.prog 39 #[rval a R, .string key, .bool j] w (RouOk (markR R key j) w) := by
  obtain ⟨KA, kn, kc, CA, cn, cc⟩ := a
  have H := Lib.hid h
  clear h
  have B0 : Hid (Blk ((w.alloc (Obj.cells (rarr ⟨KA, kn, kc, CA, cn, cc⟩ R) 30)).alloc (Obj.cells (rarr RA.zero Ro.zero) 30)) w.heap.size 30 (rarr ⟨KA, kn, kc, CA, cn, cc⟩ R)) := (Blk.new_at rfl).alloc _
  have B1 : Hid (Blk ((w.alloc (Obj.cells (rarr ⟨KA, kn, kc, CA, cn, cc⟩ R) 30)).alloc (Obj.cells (rarr RA.zero Ro.zero) 30)) (w.heap.size + 1) 30 (rarr RA.zero Ro.zero)) := Blk.new_at (by simp)
  have BE : Hid (Below w.heap.size w ((w.alloc (Obj.cells (rarr ⟨KA, kn, kc, CA, cn, cc⟩ R) 30)).alloc (Obj.cells (rarr RA.zero Ro.zero) 30))) := ((Below.refl _ _).alloc (Nat.le_refl _) _).alloc (by simp) _
  go_enter Tryd.func39, Tryd.ntmps39
  go_upto_region 1 with fail
  change (Code.region 1 _ _).wp _ _ _ ((w.alloc (Obj.cells (rarr ⟨KA, kn, kc, CA, cn, cc⟩ R) 30)).alloc (Obj.cells (rarr RA.zero Ro.zero) 30))
  generalize (w.alloc (Obj.cells (rarr ⟨KA, kn, kc, CA, cn, cc⟩ R) 30)).alloc (Obj.cells (rarr RA.zero Ro.zero) 30) = wa at *
  obtain ⟨q0, q1, q2, q3, q4, q5, qz⟩ := blk_ro B0.out
  simp only at q1 q5
  go_wp2_with fail
  clear q0 q1 q2 q3 q4 q5 qz
  refine (begins_any R ⟨KA, kn, kc, CA, cn, cc⟩ key wa (H.out.step BE.out)).mono ?_
  rintro e w2 ⟨rfl, hb1⟩
  have F0 := Lib.hid (B0.out.step hb1)
  have F1 := Lib.hid (B1.out.step hb1)
  have FE := Lib.hid (BE.out.step' hb1)
  clear hb1 B0 B1 BE
  rcases idxI_range (begB key) R.cs with ⟨hf, _⟩ | ⟨i, c, hf, hic, hin, _⟩
  · rw [hf]
    have HVE : Hid (markR R key j = (Ro.zero, 15)) := by unfold Hid markR; rw [hf]; rfl
    obtain ⟨r0, r1, r2, r3, r4, r5, rz⟩ := blk_ro F1.out
    have E := Lib.hid (change_err 15 F1.out (by omega) FE.out)
    go_wp2_with fail
    refine bodyPost_ret (results_ro_err rfl _ (w.heap.size + 1) rfl _ rfl _ RA.zero Ro.zero E.out.2) rfl ?_
    exact E.out.1.eq HVE.out
  rw [hf]
  have hn : Hid (cn = R.cs.length) := H.out.cs.ln
  have HV : Hid (markR R key j = if c.ju = j then (R, 0) else (⟨R.sp, R.ks, R.ha, R.ep, nx R.ver, repl R.cs i 1 [⟨c.lo, c.hi, c.sh, nx R.ver, j⟩]⟩, 0)) := by
    unfold Hid markR
    rw [if_neg (by omega), hf, Int.toNat_natCast, hic]
  have HIC := Lib.hid hic
  clear hic hin hf
  obtain ⟨q0, q1, q2, q3, q4, q5, qz⟩ := blk_ro F0.out
  simp only at q1 q5
  have hicn : i < cn := by rw [hn.out]; exact (List.getElem?_eq_some_iff.1 HIC.out).1
  obtain ⟨b, off, x, hA, hbl, hx, _, _, _, _, e4⟩ := H.out.cs.sr.at5 hicn
  rw [HIC.out] at hx
  injection hx with hx
  subst hx
  simp only at hA
  subst hA
  have j4 := (FE.out.cell (p := ⟨b, off + i * 5 + 4, none⟩) hbl).trans e4
  clear e4
  obtain ⟨clo, chi, csh, cver, cju⟩ := c
  simp only at j4 HV
  cases hju : (cju == j)
  rotate_left
  · have hch := copied_any w.heap.size R ⟨KA, kn, kc, some ⟨b, off, none⟩, cn, cc⟩ w2 FE.out.size (H.out.ks.toB FE.out) (H.out.cs.step FE.out)
    have HCH := Lib.hid hch
    have HV2 : Hid (markR R key j = (R, 0)) := by rw [Hid, HV.out, if_pos (by simpa using hju)]
    clear hch HV
    go_wp2_with fail
    clear q0 q1 q2 q3 q4 q5 qz j4
    refine HCH.out.mono ?_
    rintro e w3 ⟨⟨KA', kn', kc', CA', cn', cc'⟩, rfl, hks, hown, hln, hcz, hb3⟩
    have hN := F0.out.lt
    have hN1 := F1.out.lt
    have E := Lib.hid (change_end (lo := w2.heap.size) (a := ⟨KA', kn', kc', CA', cn', cc'⟩) rfl (F1.out.step hb3) (by omega) hN1 H.out.sp (hks.keep (Nat.le_refl _) fun b hF _ => ⟨hF.1, rfl⟩) hown hln hcz (FE.out.step' hb3))
    obtain ⟨r0, r1, r2, r3, r4, r5, rz⟩ := blk_ro (F1.out.step hb3)
    clear hks hown hln hcz hb3
    go_wp2_with fail
    clear r0 r1 r2 r3 r4 r5 rz
    refine bodyPost_ret (results_ro_err rfl _ (w.heap.size + 1) rfl _ rfl _ ⟨KA', kn', kc', CA', cn', cc'⟩ R E.out.2) rfl ?_
    exact E.out.1.eq HV2.out
  have hch := changed_any w.heap.size R ⟨KA, kn, kc, some ⟨b, off, none⟩, cn, cc⟩ w2 FE.out.size (H.out.ks.toB FE.out) (H.out.cs.step FE.out)
  have hSR : R.nx.cs = R.cs := rfl
  obtain ⟨S, hS⟩ : ∃ S, S = R.nx := ⟨_, rfl⟩
  rw [← hS] at hch hSR
  have HS := Lib.hid hS
  have HSR := Lib.hid hSR
  clear hS hSR
  have HCH := Lib.hid hch
  clear hch
  go_wp2_with fail
  clear q0 q1 q2 q3 q4 q5 qz j4
  refine HCH.out.mono ?_
  rintro e w3 ⟨⟨KA', kn', kc', CA', cn', cc'⟩, rfl, hks, hown, hln, hcz, hb3⟩
  have hN := F0.out.lt
  have hN1 := F1.out.lt
  have hcn' : cn' = cn := by rw [hn.out, ← HSR.out]; exact hln
  have V0 := Lib.hid (Vr.of (B := w.heap.size) (w := w) (lo := w2.heap.size) (N := w.heap.size) (F0.out.step hb3) (Nat.le_refl _) hN hks hown hln hcz hb3.size (FE.out.step' hb3))
  have V1 : Hid (Blk (setR w3 w.heap.size ⟨KA', kn', kc', CA', cn', cc'⟩ S) (w.heap.size + 1) 30 (rarr RA.zero Ro.zero)) := (heap_setR _ _ _ _ _ (by omega)).trans (F1.out.step hb3)
  obtain ⟨q0, q1, q2, q3, q4, q5, qz⟩ := blk_ro (F0.out.step hb3)
  simp only at q1 q5
  subst hcn'
  clear hks hown hb3
  have HCZ := Lib.hid hcz
  clear hcz hln
  have hh2 := Lib.hid (show w2.heap.size ≤ w3.heap.size from V0.out.hn.2.2.1)
  go_upto_region 7 with fail
  clear q0 q1 q2 q3 q4 q5 qz
  change (Code.region 7 _ _).wp _ _ _ (setR w3 w.heap.size ⟨KA', kn', kc', CA', cn', cc'⟩ S)
  generalize setR w3 w.heap.size ⟨KA', kn', kc', CA', cn', cc'⟩ S = w4 at *
  rw [HSR.out] at V0
  obtain ⟨g, hgA, hgl, hgh, hgc⟩ := V0.out.get HIC.out
  simp only at hgA
  subst hgA
  obtain ⟨q0, q1, q2, q3, q4, q5, qz⟩ := blk_ro V0.out.b0
  simp only at q1 q5
  obtain ⟨c4, z4⟩ := hgc 4 _ rfl
  clear hgc
  have W0 := Lib.hid (V0.out.put (g := g) rfl HIC.out (j := 4) (v := .bool j) (c' := ⟨clo, chi, csh, cver, j⟩) (by omega) rfl)
  have W1 := Lib.hid (V1.out.far (p := ⟨g, i * 5 + 4, none⟩) (by show w.heap.size + 1 ≠ g; omega) (.bool j))
  go_upto_region 8 with fail
  clear q0 q1 q2 q3 q4 q5 qz c4 z4 V0 V1
  generalize w4.setCell ⟨g, i * 5 + 4, none⟩ (.bool j) = w5 at *
  have HI' : Hid ((R.cs.set i ⟨clo, chi, csh, cver, j⟩)[i]? = some ⟨clo, chi, csh, cver, j⟩) := by rw [Hid, List.getElem?_set, if_pos rfl, if_pos (List.getElem?_eq_some_iff.1 HIC.out).1]
  obtain ⟨g', hgA, _, _, hgc⟩ := W0.out.get HI'.out
  injection hgA with hgA
  injection hgA with hgA
  subst hgA
  obtain ⟨q0, q1, q2, q3, q4, q5, qz⟩ := blk_ro W0.out.b0
  simp only at q1 q5
  obtain ⟨c3, z3⟩ := hgc 3 _ rfl
  clear hgc
  have hset : (R.cs.set i ⟨clo, chi, csh, cver, j⟩).set i ⟨clo, chi, csh, S.ver, j⟩ = R.cs.set i ⟨clo, chi, csh, S.ver, j⟩ := set_two
  have X0 := Lib.hid (W0.out.put (g := g) rfl HI'.out (j := 3) (v := .int .i64 S.ver) (c' := ⟨clo, chi, csh, S.ver, j⟩) (by omega) rfl)
  rw [hset] at X0
  clear hset
  have X1 := Lib.hid (W1.out.far (p := ⟨g, i * 5 + 3, none⟩) (by show w.heap.size + 1 ≠ g; omega) (.int .i64 S.ver))
  go_upto_region 9 with fail
  clear q0 q1 q2 q3 q4 q5 qz c3 z3 W0 W1
  generalize w5.setCell ⟨g, i * 5 + 3, none⟩ (.int .i64 S.ver) = w6 at *
  obtain ⟨q0, q1, q2, q3, q4, q5, qz⟩ := blk_ro X0.out.b0
  simp only at q1 q5
  obtain ⟨r0, r1, r2, r3, r4, r5, rz⟩ := blk_ro X1.out
  have HVS : Hid (markR R key j = (⟨S.sp, S.ks, S.ha, S.ep, S.ver, R.cs.set i ⟨clo, chi, csh, S.ver, j⟩⟩, 0)) := by
    rw [Hid, HV.out, if_neg (by simpa using hju), set_repl (by rw [← hn.out]; exact hicn), HS.out]
    rfl
  have E := Lib.hid (change_end (R := ⟨S.sp, S.ks, S.ha, S.ep, S.ver, R.cs.set i ⟨clo, chi, csh, S.ver, j⟩⟩) (a := ⟨KA', kn', kc', some ⟨g, 0, none⟩, cn', cc'⟩) rfl X1.out (by omega) (by omega) (by rw [HS.out]; exact H.out.sp) (X0.out.ks.keep (Nat.le_refl _) fun b hF _ => ⟨hF.1.1, rfl⟩) X0.out.own X0.out.ln X0.out.sz X0.out.bel)
  clear X0 X1 HV HS HSR
  go_wp2_with fail
  clear q0 q1 q2 q3 q4 q5 qz r0 r1 r2 r3 r4 r5 rz
  refine bodyPost_ret (results_ro_err rfl _ (w.heap.size + 1) rfl _ rfl _ ⟨KA', kn', kc', some ⟨g, 0, none⟩, cn', cc'⟩ _ E.out.2) rfl ?_
  exact E.out.1.eq HVS.out

end Go.Proofs.YtgcklgkhdokchaaDoor

namespace Go.Proofs.YtgcklgkhdokchaaDoor
open Go.RowKit

set_option maxRecDepth 100000 in
set_option maxHeartbeats 800000 in
theorem give_any (R : Ro) (a : RA) (key : ByteArray) (z : Int) (w : World) (h : RR w a R) : Calls Tryd.prog 19 #[rval a R, .string key, .int .i64 z] w (RouOk (giveR R key z) w) := by
  obtain ⟨KA, kn, kc, CA, cn, cc⟩ := a
  have H := Lib.hid h
  clear h
  have B0 : Hid (Blk ((w.alloc (Obj.cells (rarr ⟨KA, kn, kc, CA, cn, cc⟩ R) 30)).alloc (Obj.cells (rarr RA.zero Ro.zero) 30)) w.heap.size 30 (rarr ⟨KA, kn, kc, CA, cn, cc⟩ R)) := (Blk.new_at rfl).alloc _
  have B1 : Hid (Blk ((w.alloc (Obj.cells (rarr ⟨KA, kn, kc, CA, cn, cc⟩ R) 30)).alloc (Obj.cells (rarr RA.zero Ro.zero) 30)) (w.heap.size + 1) 30 (rarr RA.zero Ro.zero)) := Blk.new_at (by simp)
  have BE : Hid (Below w.heap.size w ((w.alloc (Obj.cells (rarr ⟨KA, kn, kc, CA, cn, cc⟩ R) 30)).alloc (Obj.cells (rarr RA.zero Ro.zero) 30))) := ((Below.refl _ _).alloc (Nat.le_refl _) _).alloc (by simp) _
  go_enter Tryd.func19, Tryd.ntmps19
  go_upto_region 1 with fail
  change (Code.region 1 _ _).wp _ _ _ ((w.alloc (Obj.cells (rarr ⟨KA, kn, kc, CA, cn, cc⟩ R) 30)).alloc (Obj.cells (rarr RA.zero Ro.zero) 30))
  generalize (w.alloc (Obj.cells (rarr ⟨KA, kn, kc, CA, cn, cc⟩ R) 30)).alloc (Obj.cells (rarr RA.zero Ro.zero) 30) = wa at *
  obtain ⟨q0, q1, q2, q3, q4, q5, qz⟩ := blk_ro B0.out
  simp only at q1 q5
  go_wp2_with fail
  clear q0 q1 q2 q3 q4 q5 qz
  refine (begins_any R ⟨KA, kn, kc, CA, cn, cc⟩ key wa (H.out.step BE.out)).mono ?_
  rintro e w2 ⟨rfl, hb1⟩
  have F0 := Lib.hid (B0.out.step hb1)
  have F1 := Lib.hid (B1.out.step hb1)
  have FE := Lib.hid (BE.out.step' hb1)
  clear hb1 B0 B1 BE
  rcases idxI_range (begB key) R.cs with ⟨hf, _⟩ | ⟨i, c, hf, hic, hin, _⟩
  · rw [hf]
    have HVE : Hid (giveR R key z = (Ro.zero, 15)) := by unfold Hid giveR; rw [hf]; rfl
    obtain ⟨r0, r1, r2, r3, r4, r5, rz⟩ := blk_ro F1.out
    have E := Lib.hid (change_err 15 F1.out (by omega) FE.out)
    go_wp2_with fail
    refine bodyPost_ret (results_ro_err rfl _ (w.heap.size + 1) rfl _ rfl _ RA.zero Ro.zero E.out.2) rfl ?_
    exact E.out.1.eq HVE.out
  rw [hf]
  have hn : Hid (cn = R.cs.length) := H.out.cs.ln
  have HV : Hid (giveR R key z = if z < 0 ∨ 8 ≤ z then (Ro.zero, 1) else if c.sh = z ∨ c.ju = true then (Ro.zero, 23) else (⟨R.sp, R.ks, R.ha, R.ep, nx R.ver, touch (repl R.cs i 1 [⟨c.lo, c.hi, z, nx R.ver, c.ju⟩]) c.sh (nx R.ver)⟩, 0)) := by
    unfold Hid giveR
    rw [if_neg (by omega), hf, Int.toNat_natCast, hic]
  have HIC := Lib.hid hic
  clear hic hin hf
  by_cases hz0 : z < 0
  · have HVE : Hid (giveR R key z = (Ro.zero, 1)) := by rw [Hid, HV.out, if_pos (.inl hz0)]
    obtain ⟨r0, r1, r2, r3, r4, r5, rz⟩ := blk_ro F1.out
    have E := Lib.hid (change_err 1 F1.out (by omega) FE.out)
    go_wp2_with fail
    refine bodyPost_ret (results_ro_err rfl _ (w.heap.size + 1) rfl _ rfl _ RA.zero Ro.zero E.out.2) rfl ?_
    exact E.out.1.eq HVE.out
  by_cases hz8 : 8 ≤ z
  · have HVE : Hid (giveR R key z = (Ro.zero, 1)) := by rw [Hid, HV.out, if_pos (.inr hz8)]
    obtain ⟨r0, r1, r2, r3, r4, r5, rz⟩ := blk_ro F1.out
    have E := Lib.hid (change_err 1 F1.out (by omega) FE.out)
    go_wp2_with fail
    refine bodyPost_ret (results_ro_err rfl _ (w.heap.size + 1) rfl _ rfl _ RA.zero Ro.zero E.out.2) rfl ?_
    exact E.out.1.eq HVE.out
  have HV : Hid (giveR R key z = if c.sh = z ∨ c.ju = true then (Ro.zero, 23) else (⟨R.sp, R.ks, R.ha, R.ep, nx R.ver, touch (repl R.cs i 1 [⟨c.lo, c.hi, z, nx R.ver, c.ju⟩]) c.sh (nx R.ver)⟩, 0)) := by rw [Hid, HV.out, if_neg (by omega)]
  rename_i HV0
  clear HV0
  obtain ⟨q0, q1, q2, q3, q4, q5, qz⟩ := blk_ro F0.out
  simp only at q1 q5
  have hicn : i < cn := by rw [hn.out]; exact (List.getElem?_eq_some_iff.1 HIC.out).1
  obtain ⟨b, off, x, hA, hbl, hx, _, _, e2, _, e4⟩ := H.out.cs.sr.at5 hicn
  rw [HIC.out] at hx
  injection hx with hx
  subst hx
  simp only at hA
  subst hA
  obtain ⟨clo, chi, csh, cver, cju⟩ := c
  have j2 := (FE.out.cell (p := ⟨b, off + i * 5 + 2, none⟩) hbl).trans e2
  have j4 := (FE.out.cell (p := ⟨b, off + i * 5 + 4, none⟩) hbl).trans e4
  have hb2 : b < w2.heap.size := by have := FE.out.size; omega
  simp only at j2 j4 HV
  clear e2 e4
  go_upto_region 7 with fail
  have P0 := Lib.hid (F0.out.alloc (Obj.cells #[.int .i64 csh] 3))
  have P1 := Lib.hid (F1.out.alloc (Obj.cells #[.int .i64 csh] 3))
  have P2 : Hid (Blk (w2.alloc (Obj.cells #[.int .i64 csh] 3)) w2.heap.size 3 #[.int .i64 csh]) := Blk.new_at rfl
  have PE := Lib.hid (FE.out.alloc FE.out.size (Obj.cells #[.int .i64 csh] 3))
  have i4 := (((Below.refl w2.heap.size w2).alloc (Nat.le_refl _) (Obj.cells #[.int .i64 csh] 3)).cell (p := ⟨b, off + i * 5 + 4, none⟩) hb2).trans j4
  have hNf : w.heap.size + 1 < w2.heap.size := F1.out.lt
  clear j2 j4 q0 q1 q2 q3 q4 q5 qz F0 F1 FE
  change (Code.region 7 _ _).wp _ _ _ (w2.alloc (Obj.cells #[.int .i64 csh] 3))
  have hwf : (w2.alloc (Obj.cells #[.int .i64 csh] 3)).heap.size = w2.heap.size + 1 := by simp
  generalize w2.alloc (Obj.cells #[.int .i64 csh] 3) = wf at *
  have HWF := Lib.hid hwf
  clear hwf hb2
  obtain ⟨f, hf⟩ : ∃ f, f = w2.heap.size := ⟨_, rfl⟩
  rw [← hf] at HWF hNf P2 ⊢
  clear hf
  have k0 := P2.out.cell 0
  simp at k0
  obtain ⟨q0, q1, q2, q3, q4, q5, qz⟩ := blk_ro P0.out
  simp only at q1 q5
  cases hsz : (csh == z)
  rotate_left
  · have HVE : Hid (giveR R key z = (Ro.zero, 23)) := by rw [Hid, HV.out, if_pos (.inl (by simpa using hsz))]
    obtain ⟨r0, r1, r2, r3, r4, r5, rz⟩ := blk_ro P1.out
    have E := Lib.hid (change_err 23 P1.out (by omega) PE.out)
    go_wp2_with fail
    refine bodyPost_ret (results_ro_err rfl _ (w.heap.size + 1) rfl _ rfl _ RA.zero Ro.zero E.out.2) rfl ?_
    exact E.out.1.eq HVE.out
  cases hju : cju
  rotate_left
  · subst hju
    have HVE : Hid (giveR R key z = (Ro.zero, 23)) := by rw [Hid, HV.out, if_pos (.inr rfl)]
    obtain ⟨r0, r1, r2, r3, r4, r5, rz⟩ := blk_ro P1.out
    have E := Lib.hid (change_err 23 P1.out (by omega) PE.out)
    go_wp2_with fail
    refine bodyPost_ret (results_ro_err rfl _ (w.heap.size + 1) rfl _ rfl _ RA.zero Ro.zero E.out.2) rfl ?_
    exact E.out.1.eq HVE.out
  subst hju
  have HV : Hid (giveR R key z = (⟨R.sp, R.ks, R.ha, R.ep, nx R.ver, touch (repl R.cs i 1 [⟨clo, chi, z, nx R.ver, false⟩]) csh (nx R.ver)⟩, 0)) := by rw [Hid, HV.out, if_neg (by simpa using hsz)]
  have hch := changed_any w.heap.size R ⟨KA, kn, kc, some ⟨b, off, none⟩, cn, cc⟩ wf PE.out.size (H.out.ks.toB PE.out) (H.out.cs.step PE.out)
  have hSR : R.nx.cs = R.cs := rfl
  obtain ⟨S, hS⟩ : ∃ S, S = R.nx := ⟨_, rfl⟩
  rw [← hS] at hch hSR
  have HS := Lib.hid hS
  have HSR := Lib.hid hSR
  clear hS hSR
  have HCH := Lib.hid hch
  clear hch
  go_wp2_with fail
  clear q0 q1 q2 q3 q4 q5 qz i4 k0
  refine HCH.out.mono ?_
  rintro e w3 ⟨⟨KA', kn', kc', CA', cn', cc'⟩, rfl, hks, hown, hln, hcz, hb3⟩
  have hN := P0.out.lt
  have hN1 := P1.out.lt
  have hcn' : cn' = cn := by rw [hn.out, ← HSR.out]; exact hln
  have V0 := Lib.hid (Vr.of (B := w.heap.size) (w := w) (lo := wf.heap.size) (N := w.heap.size) (P0.out.step hb3) (Nat.le_refl _) hN hks hown hln hcz hb3.size (PE.out.step' hb3))
  have V1 : Hid (Blk (setR w3 w.heap.size ⟨KA', kn', kc', CA', cn', cc'⟩ S) (w.heap.size + 1) 30 (rarr RA.zero Ro.zero)) := (heap_setR _ _ _ _ _ (by omega)).trans (P1.out.step hb3)
  have V2 : Hid (Blk (setR w3 w.heap.size ⟨KA', kn', kc', CA', cn', cc'⟩ S) f 3 #[.int .i64 csh]) := (heap_setR _ _ _ _ _ (by omega)).trans (P2.out.step hb3)
  obtain ⟨q0, q1, q2, q3, q4, q5, qz⟩ := blk_ro (P0.out.step hb3)
  simp only at q1 q5
  subst hcn'
  clear hks hown hb3
  have HCZ := Lib.hid hcz
  clear hcz hln
  have hh2 := Lib.hid (show wf.heap.size ≤ w3.heap.size from V0.out.hn.2.2.1)
  go_upto_region 10 with fail
  clear q0 q1 q2 q3 q4 q5 qz
  change (Code.region 10 _ _).wp _ _ _ (setR w3 w.heap.size ⟨KA', kn', kc', CA', cn', cc'⟩ S)
  generalize setR w3 w.heap.size ⟨KA', kn', kc', CA', cn', cc'⟩ S = w4 at *
  rw [HSR.out] at V0
  obtain ⟨g, hgA, hgl, hgh, hgc⟩ := V0.out.get HIC.out
  simp only at hgA
  subst hgA
  obtain ⟨q0, q1, q2, q3, q4, q5, qz⟩ := blk_ro V0.out.b0
  simp only at q1 q5
  obtain ⟨c2, z2⟩ := hgc 2 _ rfl
  clear hgc
  have W0 := Lib.hid (V0.out.put (g := g) rfl HIC.out (j := 2) (v := .int .i64 z) (c' := ⟨clo, chi, z, cver, false⟩) (by omega) rfl)
  have W1 := Lib.hid (V1.out.far (p := ⟨g, i * 5 + 2, none⟩) (by show w.heap.size + 1 ≠ g; omega) (.int .i64 z))
  have W2 := Lib.hid (V2.out.far (p := ⟨g, i * 5 + 2, none⟩) (by show f ≠ g; have := HWF.out; omega) (.int .i64 z))
  go_upto_region 11 with fail
  clear q0 q1 q2 q3 q4 q5 qz c2 z2 V0 V1 V2
  generalize w4.setCell ⟨g, i * 5 + 2, none⟩ (.int .i64 z) = w5 at *
  have HI' : Hid ((R.cs.set i ⟨clo, chi, z, cver, false⟩)[i]? = some ⟨clo, chi, z, cver, false⟩) := by rw [Hid, List.getElem?_set, if_pos rfl, if_pos (List.getElem?_eq_some_iff.1 HIC.out).1]
  obtain ⟨g', hgA, _, _, hgc⟩ := W0.out.get HI'.out
  injection hgA with hgA
  injection hgA with hgA
  subst hgA
  obtain ⟨q0, q1, q2, q3, q4, q5, qz⟩ := blk_ro W0.out.b0
  simp only at q1 q5
  obtain ⟨c3, z3⟩ := hgc 3 _ rfl
  clear hgc
  have hset : (R.cs.set i ⟨clo, chi, z, cver, false⟩).set i ⟨clo, chi, z, S.ver, false⟩ = repl R.cs i 1 [⟨clo, chi, z, S.ver, false⟩] := by rw [set_two, set_repl (by rw [← hn.out]; exact hicn)]
  have X0 := Lib.hid (W0.out.put (g := g) rfl HI'.out (j := 3) (v := .int .i64 S.ver) (c' := ⟨clo, chi, z, S.ver, false⟩) (by omega) rfl)
  rw [hset] at X0
  clear hset
  have X1 := Lib.hid (W1.out.far (p := ⟨g, i * 5 + 3, none⟩) (by show w.heap.size + 1 ≠ g; omega) (.int .i64 S.ver))
  have X2 := Lib.hid (W2.out.far (p := ⟨g, i * 5 + 3, none⟩) (by show f ≠ g; have := HWF.out; omega) (.int .i64 S.ver))
  go_upto_region 12 with fail
  clear q0 q1 q2 q3 q4 q5 qz c3 z3 W0 W1 W2
  generalize w5.setCell ⟨g, i * 5 + 3, none⟩ (.int .i64 S.ver) = w6 at *
  have HVS : Hid (giveR R key z = (⟨S.sp, S.ks, S.ha, S.ep, S.ver, touch (repl R.cs i 1 [⟨clo, chi, z, S.ver, false⟩]) csh S.ver⟩, 0)) := by
    rw [Hid, HV.out, HS.out]
    rfl
  have hsp : Hid (S.sp.size ≤ reach) := by rw [Hid, HS.out]; exact H.out.sp
  clear HV HS HSR
  obtain ⟨L, hL⟩ : ∃ L, L = repl R.cs i 1 [⟨clo, chi, z, S.ver, false⟩] := ⟨_, rfl⟩
  rw [← hL] at X0 HVS
  clear hL
  have hLn : Hid (cn' = L.length) := X0.out.ln
  obtain ⟨q0, q1, q2, q3, q4, q5, qz⟩ := blk_ro X0.out.b0
  simp only at q1 q5
  obtain ⟨A', c', hv', hsr'⟩ := SR.of_own recC_length X0.out.own X0.out.ln.symm
  injection hv' with e1 e2 e3
  subst e1 e3
  have HIX := Lib.hid (indexC_any 38 f (shB csh) L _ _ _ w6 ⟨hsr', X0.out.sz⟩ (fun _ _ => rfl) fun x wr hb => give1_any x f csh wr ((X2.out.step hb).cell 0))
  clear hsr'
  go_wp2_with fail
  clear q0 q1 q2 q3 q4 q5 qz
  refine HIX.out.mono ?_
  rintro e w7 ⟨rfl, hb7⟩
  have Y0 := Lib.hid (X0.out.step hb7)
  have Y1 := Lib.hid (X1.out.step hb7)
  clear hb7 X0 X1 X2 HIX
  rcases idxI_range (shB csh) L with ⟨hf, _⟩ | ⟨k, d, hf, hkd, _, _⟩
  · rw [hf]
    have HVS : Hid (giveR R key z = (⟨S.sp, S.ks, S.ha, S.ep, S.ver, L⟩, 0)) := by
      rw [Hid, HVS.out]
      unfold touch
      rw [if_pos (by omega)]
    clear hf
    obtain ⟨q0, q1, q2, q3, q4, q5, qz⟩ := blk_ro Y0.out.b0
    simp only at q1 q5
    obtain ⟨r0, r1, r2, r3, r4, r5, rz⟩ := blk_ro Y1.out
    have E := Lib.hid (change_end (R := ⟨S.sp, S.ks, S.ha, S.ep, S.ver, L⟩) (a := ⟨KA', kn', kc', some ⟨g, 0, none⟩, cn', cc'⟩) rfl Y1.out (by omega) (by omega) hsp.out (Y0.out.ks.keep (Nat.le_refl _) fun b hF _ => ⟨hF.1.1, rfl⟩) Y0.out.own Y0.out.ln Y0.out.sz Y0.out.bel)
    clear Y0 Y1
    go_wp2_with fail
    clear q0 q1 q2 q3 q4 q5 qz r0 r1 r2 r3 r4 r5 rz
    refine bodyPost_ret (results_ro_err rfl _ (w.heap.size + 1) rfl _ rfl _ ⟨KA', kn', kc', some ⟨g, 0, none⟩, cn', cc'⟩ _ E.out.2) rfl ?_
    exact E.out.1.eq HVS.out
  · rw [hf]
    have HVS : Hid (giveR R key z = (⟨S.sp, S.ks, S.ha, S.ep, S.ver, L.set k ⟨d.lo, d.hi, d.sh, S.ver, d.ju⟩⟩, 0)) := by
      rw [Hid, HVS.out]
      unfold touch
      rw [if_neg (by omega), hf, Int.toNat_natCast, hkd]
    have HK := Lib.hid hkd
    have hkl : k < cn' := by rw [hLn.out]; exact (List.getElem?_eq_some_iff.1 hkd).1
    clear hf hkd
    obtain ⟨dlo, dhi, dsh, dver, dju⟩ := d
    simp only at HVS
    obtain ⟨g', hgA, _, _, hgc⟩ := Y0.out.get HK.out
    injection hgA with hgA
    injection hgA with hgA
    subst hgA
    obtain ⟨q0, q1, q2, q3, q4, q5, qz⟩ := blk_ro Y0.out.b0
    simp only at q1 q5
    obtain ⟨c3, z3⟩ := hgc 3 _ rfl
    clear hgc
    have Z0 := Lib.hid (Y0.out.put (g := g) rfl HK.out (j := 3) (v := .int .i64 S.ver) (c' := ⟨dlo, dhi, dsh, S.ver, dju⟩) (by omega) rfl)
    have Z1 := Lib.hid (Y1.out.far (p := ⟨g, k * 5 + 3, none⟩) (by show w.heap.size + 1 ≠ g; omega) (.int .i64 S.ver))
    go_upto_region 15 with fail
    clear q0 q1 q2 q3 q4 q5 qz c3 z3 Y0 Y1
    generalize w7.setCell ⟨g, k * 5 + 3, none⟩ (.int .i64 S.ver) = w8 at *
    obtain ⟨q0, q1, q2, q3, q4, q5, qz⟩ := blk_ro Z0.out.b0
    simp only at q1 q5
    obtain ⟨r0, r1, r2, r3, r4, r5, rz⟩ := blk_ro Z1.out
    have E := Lib.hid (change_end (R := ⟨S.sp, S.ks, S.ha, S.ep, S.ver, L.set k ⟨dlo, dhi, dsh, S.ver, dju⟩⟩) (a := ⟨KA', kn', kc', some ⟨g, 0, none⟩, cn', cc'⟩) rfl Z1.out (by omega) (by omega) hsp.out (Z0.out.ks.keep (Nat.le_refl _) fun b hF _ => ⟨hF.1.1, rfl⟩) Z0.out.own Z0.out.ln Z0.out.sz Z0.out.bel)
    clear Z0 Z1
    go_wp2_with fail
    clear q0 q1 q2 q3 q4 q5 qz r0 r1 r2 r3 r4 r5 rz
    refine bodyPost_ret (results_ro_err rfl _ (w.heap.size + 1) rfl _ rfl _ ⟨KA', kn', kc', some ⟨g, 0, none⟩, cn', cc'⟩ _ E.out.2) rfl ?_
    exact E.out.1.eq HVS.out

end Go.Proofs.YtgcklgkhdokchaaDoor

namespace Go.Proofs.YtgcklgkhdokchaaDoor
open Go.RowKit

set_option maxRecDepth 100000 in
set_option maxHeartbeats 800000 in
theorem join_any (R : Ro) (a : RA) (key : ByteArray) (w : World) (h : RR w a R) : Calls Tryd.prog 17 #[rval a R, .string key] w (RouOk (joinR R key) w) := by
  obtain ⟨KA, kn, kc, CA, cn, cc⟩ := a
  have H := Lib.hid h
  clear h
  have B0 : Hid (Blk ((w.alloc (Obj.cells (rarr ⟨KA, kn, kc, CA, cn, cc⟩ R) 30)).alloc (Obj.cells (rarr RA.zero Ro.zero) 30)) w.heap.size 30 (rarr ⟨KA, kn, kc, CA, cn, cc⟩ R)) := (Blk.new_at rfl).alloc _
  have B1 : Hid (Blk ((w.alloc (Obj.cells (rarr ⟨KA, kn, kc, CA, cn, cc⟩ R) 30)).alloc (Obj.cells (rarr RA.zero Ro.zero) 30)) (w.heap.size + 1) 30 (rarr RA.zero Ro.zero)) := Blk.new_at (by simp)
  have BE : Hid (Below w.heap.size w ((w.alloc (Obj.cells (rarr ⟨KA, kn, kc, CA, cn, cc⟩ R) 30)).alloc (Obj.cells (rarr RA.zero Ro.zero) 30))) := ((Below.refl _ _).alloc (Nat.le_refl _) _).alloc (by simp) _
  go_enter Tryd.func17, Tryd.ntmps17
  go_upto_region 1 with fail
  change (Code.region 1 _ _).wp _ _ _ ((w.alloc (Obj.cells (rarr ⟨KA, kn, kc, CA, cn, cc⟩ R) 30)).alloc (Obj.cells (rarr RA.zero Ro.zero) 30))
  generalize (w.alloc (Obj.cells (rarr ⟨KA, kn, kc, CA, cn, cc⟩ R) 30)).alloc (Obj.cells (rarr RA.zero Ro.zero) 30) = wa at *
  obtain ⟨q0, q1, q2, q3, q4, q5, qz⟩ := blk_ro B0.out
  simp only at q1 q5
  go_wp2_with fail
  clear q0 q1 q2 q3 q4 q5 qz
  refine (begins_any R ⟨KA, kn, kc, CA, cn, cc⟩ key wa (H.out.step BE.out)).mono ?_
  rintro e w2 ⟨rfl, hb1⟩
  have F0 := Lib.hid (B0.out.step hb1)
  have F1 := Lib.hid (B1.out.step hb1)
  have FE := Lib.hid (BE.out.step' hb1)
  clear hb1 B0 B1 BE
  by_cases hlt : idxI (begB key) R.cs < 1
  · have hlt' : (idxI (begB key) R.cs < 1) = True := by simp; omega
    have HVE : Hid (joinR R key = (Ro.zero, 15)) := by unfold Hid joinR; rw [if_pos hlt]
    obtain ⟨r0, r1, r2, r3, r4, r5, rz⟩ := blk_ro F1.out
    have E := Lib.hid (change_err 15 F1.out (by omega) FE.out)
    go_wp2_with fail
    refine bodyPost_ret (results_ro_err rfl _ (w.heap.size + 1) rfl _ rfl _ RA.zero Ro.zero E.out.2) rfl ?_
    exact E.out.1.eq HVE.out
  rcases idxI_range (begB key) R.cs with ⟨hf, _⟩ | ⟨i, c, hf, hic, hin, _⟩
  · omega
  obtain ⟨k, rfl⟩ : ∃ k, i = k + 1 := ⟨i - 1, by omega⟩
  have hn : Hid (cn = R.cs.length) := H.out.cs.ln
  have hicn : k + 1 < cn := by rw [hn.out]; exact (List.getElem?_eq_some_iff.1 hic).1
  obtain ⟨d, hd⟩ : ∃ d, R.cs[k]? = some d := ⟨_, List.getElem?_eq_getElem (by rw [← hn.out]; omega)⟩
  have HV : Hid (joinR R key = if d.sh ≠ c.sh ∨ d.ju = true ∨ c.ju = true then (Ro.zero, 23) else (⟨R.sp, R.ks, R.ha, R.ep, nx R.ver, repl R.cs k 2 [⟨d.lo, c.hi, d.sh, nx R.ver, d.ju⟩]⟩, 0)) := by
    unfold Hid joinR
    rw [if_neg hlt, hf, Int.toNat_natCast, hic, show k + 1 - 1 = k by omega, hd]
  have HIC := Lib.hid hic
  have HD := Lib.hid hd
  rw [hf]
  clear hlt hic hin hf hd
  obtain ⟨q0, q1, q2, q3, q4, q5, qz⟩ := blk_ro F0.out
  simp only at q1 q5
  obtain ⟨b, off, x, hA, hbl, hx, e0, e1, e2, e3, e4⟩ := H.out.cs.sr.at5 (i := k) (by show k < cn; omega)
  rw [HD.out] at hx
  injection hx with hx
  subst hx
  simp only at hA
  subst hA
  obtain ⟨b', off', x, hA, _, hx, u0, u1, u2, u3, u4⟩ := H.out.cs.sr.at5 (i := k + 1) hicn
  rw [HIC.out] at hx
  injection hx with hx
  subst hx
  simp only at hA
  injection hA with hA
  injection hA with hA1 hA2
  subst hA1 hA2
  have bc := fun o => FE.out.cell (p := ⟨b, o, none⟩) hbl
  replace e0 := (bc _).trans e0
  replace e1 := (bc _).trans e1
  replace e2 := (bc _).trans e2
  replace e3 := (bc _).trans e3
  replace e4 := (bc _).trans e4
  replace u0 := (bc _).trans u0
  replace u1 := (bc _).trans u1
  replace u2 := (bc _).trans u2
  replace u3 := (bc _).trans u3
  replace u4 := (bc _).trans u4
  have hb2 : b < w2.heap.size := by have := FE.out.size; omega
  have hb3' : b < w2.heap.size + 1 := by omega
  clear bc
  obtain ⟨dlo, dhi, dsh, dver, dju⟩ := d
  obtain ⟨clo, chi, csh, cver, cju⟩ := c
  simp only at e0 e1 e2 e3 e4 u0 u1 u2 u3 u4 HV
  have hk0 : (0 : Int) ≤ (k : Int) := by omega
  have hk1 : (k : Int) < (cn : Int) := by omega
  have hk2 : (k : Int) + 1 < (cn : Int) := by omega
  have hk3 : ((k : Int) + 1).toNat = k + 1 := by omega
  have hk4 : (0 : Int) ≤ (k : Int) + 1 := by omega
  have hk5 : IntKind.i64.wrap ((k : Int) + 1 - 1) = (k : Int) := by
    have := H.out.cs.sz
    unfold reach at this
    rw [IntKind.wrap_i64]
    simp only at this
    omega
  have hkn : cn ≤ 140737488355328 := by have := H.out.cs.sz; unfold reach at this; simp only at this; omega
  have hk6 : IntKind.i64.wrap (k : Int) = (k : Int) := by rw [IntKind.wrap_i64]; omega
  have hNa : w.heap.size < w2.heap.size := F0.out.lt
  have hNb : w.heap.size < w2.heap.size + 1 := by omega
  go_upto_region 4 with fail
  go_cut [7, 8] (fun v7 v8 wx => ∃ gl gu : Nat, v7 = .pointer (some ⟨gl, 0, none⟩) ∧ v8 = .pointer (some ⟨gu, 0, none⟩) ∧ Blk wx gl 45 #[.string dlo, .string dhi, .int .i64 dsh, .int .i64 dver, .bool dju] ∧ Blk wx gu 45 #[.string clo, .string chi, .int .i64 csh, .int .i64 cver, .bool cju] ∧ w2.heap.size ≤ gl ∧ w2.heap.size ≤ gu ∧ Below w2.heap.size w2 wx)
  case first =>
    go_region
    all_goals (go_wp2_with fail; go_meet)
    all_goals first
      | exact ⟨w2.heap.size, w2.heap.size + 1, rfl, rfl, (Blk.new_at rfl).alloc _, Blk.new_at (by simp), by omega, by omega, (((Below.refl _ _).alloc (Nat.le_refl _) _).alloc (by simp) _).drew⟩
      | exact ⟨w2.heap.size + 1, w2.heap.size, rfl, rfl, Blk.new_at (by simp), (Blk.new_at rfl).alloc _, by omega, by omega, (((Below.refl _ _).alloc (Nat.le_refl _) _).alloc (by simp) _).drew⟩
  case rest =>
    obtain ⟨gl, gu, rfl, rfl, L0, U0, hgl, hgu, hbc⟩ := hcut
    have hNf : w.heap.size + 1 < w2.heap.size := F1.out.lt
    have P0 := Lib.hid (F0.out.step hbc)
    have P1 := Lib.hid (F1.out.step hbc)
    have PE := Lib.hid (FE.out.step' hbc)
    have PL := Lib.hid L0
    have PU := Lib.hid U0
    clear q0 q1 q2 q3 q4 q5 qz e0 e1 e2 e3 e4 u0 u1 u2 u3 u4 hbc L0 U0 F0 F1 FE hb2 hb3' hNa hNb
    have l2 := PL.out.cell 2
    have l4 := PL.out.cell 4
    have u2 := PU.out.cell 2
    have u4 := PU.out.cell 4
    simp at l2 l4 u2 u4
    cases hsh : (dsh != csh)
    rotate_left
    · have hsh' : dsh ≠ csh := by simpa using hsh
      have HVE : Hid (joinR R key = (Ro.zero, 23)) := by rw [Hid, HV.out, if_pos (.inl hsh')]
      obtain ⟨r0, r1, r2, r3, r4, r5, rz⟩ := blk_ro P1.out
      have E := Lib.hid (change_err 23 P1.out (by omega) PE.out)
      go_wp2_with fail
      refine bodyPost_ret (results_ro_err rfl _ (w.heap.size + 1) rfl _ rfl _ RA.zero Ro.zero E.out.2) rfl ?_
      exact E.out.1.eq HVE.out
    cases dju
    rotate_left
    · have HVE : Hid (joinR R key = (Ro.zero, 23)) := by rw [Hid, HV.out, if_pos (.inr (.inl rfl))]
      obtain ⟨r0, r1, r2, r3, r4, r5, rz⟩ := blk_ro P1.out
      have E := Lib.hid (change_err 23 P1.out (by omega) PE.out)
      go_wp2_with fail
      refine bodyPost_ret (results_ro_err rfl _ (w.heap.size + 1) rfl _ rfl _ RA.zero Ro.zero E.out.2) rfl ?_
      exact E.out.1.eq HVE.out
    cases cju
    rotate_left
    · have HVE : Hid (joinR R key = (Ro.zero, 23)) := by rw [Hid, HV.out, if_pos (.inr (.inr rfl))]
      obtain ⟨r0, r1, r2, r3, r4, r5, rz⟩ := blk_ro P1.out
      have E := Lib.hid (change_err 23 P1.out (by omega) PE.out)
      go_wp2_with fail
      refine bodyPost_ret (results_ro_err rfl _ (w.heap.size + 1) rfl _ rfl _ RA.zero Ro.zero E.out.2) rfl ?_
      exact E.out.1.eq HVE.out
    have hsh' : Hid (dsh = csh) := by simpa [Hid] using hsh
    have HV1 : Hid (joinR R key = (⟨R.sp, R.ks, R.ha, R.ep, nx R.ver, repl R.cs k 2 [⟨dlo, chi, dsh, nx R.ver, false⟩]⟩, 0)) := by rw [Hid, HV.out, if_neg (by simp [hsh'.out])]
    clear HV
    obtain ⟨q0, q1, q2, q3, q4, q5, qz⟩ := blk_ro P0.out
    simp only at q1 q5
    have hch := changed_any w.heap.size R ⟨KA, kn, kc, some ⟨b, off, none⟩, cn, cc⟩ wc PE.out.size (H.out.ks.toB PE.out) (H.out.cs.step PE.out)
    have hSR : R.nx.cs = R.cs := rfl
    obtain ⟨S, hS⟩ : ∃ S, S = R.nx := ⟨_, rfl⟩
    rw [← hS] at hch hSR
    have HS := Lib.hid hS
    have HSR := Lib.hid hSR
    clear hS hSR
    have HCH := Lib.hid hch
    clear hch
    go_wp2_with fail
    clear q0 q1 q2 q3 q4 q5 qz l2 l4 u2 u4
    refine HCH.out.mono ?_
    rintro e w3 ⟨⟨KA', kn', kc', CA', cn', cc'⟩, rfl, hks, hown, hln, hcz, hb3⟩
    have hN := P0.out.lt
    have hN1 := P1.out.lt
    have hcn' : cn' = cn := by rw [hn.out, ← HSR.out]; exact hln
    have V0 := Lib.hid (Vr.of (B := w.heap.size) (w := w) (lo := wc.heap.size) (N := w.heap.size) (P0.out.step hb3) (Nat.le_refl _) hN hks hown hln hcz hb3.size (PE.out.step' hb3))
    have V1 : Hid (Blk (setR w3 w.heap.size ⟨KA', kn', kc', CA', cn', cc'⟩ S) (w.heap.size + 1) 30 (rarr RA.zero Ro.zero)) := (heap_setR _ _ _ _ _ (by omega)).trans (P1.out.step hb3)
    have V2 : Hid (Blk (setR w3 w.heap.size ⟨KA', kn', kc', CA', cn', cc'⟩ S) gu 45 #[.string clo, .string chi, .int .i64 csh, .int .i64 cver, .bool false]) := (heap_setR _ _ _ _ _ (by omega)).trans (PU.out.step hb3)
    have hgul : gu < wc.heap.size := PU.out.lt
    obtain ⟨q0, q1, q2, q3, q4, q5, qz⟩ := blk_ro (P0.out.step hb3)
    simp only at q1 q5
    subst hcn'
    clear hks hown hb3
    have HCZ := Lib.hid hcz
    clear hcz hln
    have hh2 := Lib.hid (show wc.heap.size ≤ w3.heap.size from V0.out.hn.2.2.1)
    go_upto_region 8 with fail
    clear q0 q1 q2 q3 q4 q5 qz
    change (Code.region 8 _ _).wp _ _ _ (setR w3 w.heap.size ⟨KA', kn', kc', CA', cn', cc'⟩ S)
    generalize setR w3 w.heap.size ⟨KA', kn', kc', CA', cn', cc'⟩ S = w4 at *
    rw [HSR.out] at V0
    obtain ⟨g, hgA, hgl, hgh, hgc⟩ := V0.out.get HD.out
    simp only at hgA
    subst hgA
    obtain ⟨q0, q1, q2, q3, q4, q5, qz⟩ := blk_ro V0.out.b0
    simp only at q1 q5
    obtain ⟨c1, z1⟩ := hgc 1 _ rfl
    clear hgc
    have u1 := V2.out.cell 1
    simp at u1
    have W0 := Lib.hid (V0.out.put (g := g) rfl HD.out (j := 1) (v := .string chi) (c' := ⟨dlo, chi, dsh, dver, false⟩) (by omega) rfl)
    have W1 := Lib.hid (V1.out.far (p := ⟨g, k * 5 + 1, none⟩) (by show w.heap.size + 1 ≠ g; omega) (.string chi))
    go_upto_region 9 with fail
    clear q0 q1 q2 q3 q4 q5 qz c1 z1 u1 V0 V1 V2
    generalize w4.setCell ⟨g, k * 5 + 1, none⟩ (.string chi) = w5 at *
    have HI' : Hid ((R.cs.set k ⟨dlo, chi, dsh, dver, false⟩)[k]? = some ⟨dlo, chi, dsh, dver, false⟩) := by rw [Hid, List.getElem?_set, if_pos rfl, if_pos (List.getElem?_eq_some_iff.1 HD.out).1]
    obtain ⟨g', hgA, _, _, hgc⟩ := W0.out.get HI'.out
    injection hgA with hgA
    injection hgA with hgA
    subst hgA
    obtain ⟨q0, q1, q2, q3, q4, q5, qz⟩ := blk_ro W0.out.b0
    simp only at q1 q5
    obtain ⟨c3, z3⟩ := hgc 3 _ rfl
    clear hgc
    have hset : (R.cs.set k ⟨dlo, chi, dsh, dver, false⟩).set k ⟨dlo, chi, dsh, S.ver, false⟩ = R.cs.set k ⟨dlo, chi, dsh, S.ver, false⟩ := set_two
    have X0 := Lib.hid (W0.out.put (g := g) rfl HI'.out (j := 3) (v := .int .i64 S.ver) (c' := ⟨dlo, chi, dsh, S.ver, false⟩) (by omega) rfl)
    rw [hset] at X0
    clear hset
    have X1 := Lib.hid (W1.out.far (p := ⟨g, k * 5 + 3, none⟩) (by show w.heap.size + 1 ≠ g; omega) (.int .i64 S.ver))
    go_upto_region 10 with fail
    clear q0 q1 q2 q3 q4 q5 qz c3 z3 W0 W1
    generalize w5.setCell ⟨g, k * 5 + 3, none⟩ (.int .i64 S.ver) = w6 at *
    obtain ⟨q0, q1, q2, q3, q4, q5, qz⟩ := blk_ro X0.out.b0
    simp only at q1 q5
    have hX := X0.out.own
    have hdel := deleteC_any (R.cs.set k ⟨dlo, chi, dsh, S.ver, false⟩) wc.heap.size g cn' cc' (k + 1) w6 hX hicn
    rw [show ((k + 1 : Nat) : Int) = (k : Int) + 1 by omega] at hdel
    have HDL := Lib.hid hdel
    clear hX hdel
    go_wp2_with fail
    clear q0 q1 q2 q3 q4 q5 qz
    refine HDL.out.mono ?_
    rintro e w9 ⟨rfl, hown9, hbut⟩
    have P0 := Lib.hid (X0.out.b0.but hbut (by omega))
    have P1 := Lib.hid (X1.out.but hbut (by omega))
    obtain ⟨q0, q1, q2, q3, q4, q5, qz⟩ := blk_ro P0.out
    simp only at q1 q5
    have G0 : Hid (Blk (w9.setCell ⟨w.heap.size, 5, none⟩ (.slice (some ⟨g, 0, none⟩) (cn' - 1) cc')) w.heap.size 30 (rarr ⟨KA', kn', kc', some ⟨g, 0, none⟩, cn' - 1, cc'⟩ S)) := P0.out.set_ 5 _
    have G1 : Hid (Blk (w9.setCell ⟨w.heap.size, 5, none⟩ (.slice (some ⟨g, 0, none⟩) (cn' - 1) cc')) (w.heap.size + 1) 30 (rarr RA.zero Ro.zero)) := P1.out.far (by show w.heap.size + 1 ≠ w.heap.size; omega) _
    have G2 := Lib.hid (own_far hown9 (p := ⟨w.heap.size, 5, none⟩) (fun e => by have := own_ge hown9 _ e; simp only at this; omega) (.slice (some ⟨g, 0, none⟩) (cn' - 1) cc'))
    have G3 : Hid (KSF (fun b => b < w.heap.size ∨ wc.heap.size ≤ b) (w9.setCell ⟨w.heap.size, 5, none⟩ (.slice (some ⟨g, 0, none⟩) (cn' - 1) cc')) KA' kn' kc' S.ks) :=
      X0.out.ks.keep (by have := hbut.size; simpa [World.setCell] using this) fun b hF hlt => ⟨hF.1.1, by rw [Below.heap_setCell _ _ _ b (by show b ≠ w.heap.size; have := hF.1.1; omega)]; exact hbut.block b hlt (fun e => hF.2 (by rw [e]; rfl))⟩
    have G4 : Hid (Below w.heap.size w (w9.setCell ⟨w.heap.size, 5, none⟩ (.slice (some ⟨g, 0, none⟩) (cn' - 1) cc'))) := (X0.out.bel.trans (hbut.below (by have := X0.out.hn; omega) (by omega))).setCell (Nat.le_refl _) _
    go_upto_region 11 with fail
    clear q0 q1 q2 q3 q4 q5 qz hown9 hbut P0 P1 X0 X1 HDL
    generalize w9.setCell ⟨w.heap.size, 5, none⟩ (.slice (some ⟨g, 0, none⟩) (cn' - 1) cc') = w10 at *
    obtain ⟨q0, q1, q2, q3, q4, q5, qz⟩ := blk_ro G0.out
    simp only at q1 q5
    obtain ⟨r0, r1, r2, r3, r4, r5, rz⟩ := blk_ro G1.out
    have HVS : Hid (joinR R key = (⟨S.sp, S.ks, S.ha, S.ep, S.ver, (R.cs.set k ⟨dlo, chi, dsh, S.ver, false⟩).eraseIdx (k + 1)⟩, 0)) := by
      rw [Hid, HV1.out, erase_repl (by rw [← hn.out]; exact hicn), HS.out]
      rfl
    have hel : cn' - 1 = ((R.cs.set k ⟨dlo, chi, dsh, S.ver, false⟩).eraseIdx (k + 1)).length := by
      rw [List.length_eraseIdx_of_lt (by rw [List.length_set, ← hn.out]; exact hicn), List.length_set, hn.out]
    have E := Lib.hid (change_end (R := ⟨S.sp, S.ks, S.ha, S.ep, S.ver, (R.cs.set k ⟨dlo, chi, dsh, S.ver, false⟩).eraseIdx (k + 1)⟩) (a := ⟨KA', kn', kc', some ⟨g, 0, none⟩, cn' - 1, cc'⟩) rfl G1.out (by omega) (by omega) (by rw [HS.out]; exact H.out.sp) G3.out G2.out hel (by show (cn' - 1) * 56 ≤ reach; have := HCZ.out; omega) G4.out)
    clear G0 G1 G2 G3 G4 HV1 HS HSR hel
    go_wp2_with fail
    clear q0 q1 q2 q3 q4 q5 qz r0 r1 r2 r3 r4 r5 rz
    refine bodyPost_ret (results_ro_err rfl _ (w.heap.size + 1) rfl _ rfl _ ⟨KA', kn', kc', some ⟨g, 0, none⟩, cn' - 1, cc'⟩ _ E.out.2) rfl ?_
    exact E.out.1.eq HVS.out

end Go.Proofs.YtgcklgkhdokchaaDoor
