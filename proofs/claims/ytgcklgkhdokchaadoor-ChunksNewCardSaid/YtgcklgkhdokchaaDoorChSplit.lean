/- The contract of chunks.Split. -/
import Derived.Test.YtgcklgkhdokchaaDoorChVar
namespace Go.Proofs.YtgcklgkhdokchaaDoor
open Go.RowKit

theorem blk_ro {w : World} {g : Nat} {t : TypeId} {a : RA} {R : Ro} (h : Blk w g t (rarr a R)) : w.cell? ⟨g, 0, none⟩ = some (.string R.sp) ∧ w.cell? ⟨g, 1, none⟩ = some (.slice a.KA a.kn a.kc) ∧ w.cell? ⟨g, 2, none⟩ = some (.bool R.ha) ∧ w.cell? ⟨g, 3, none⟩ = some (.int .i64 R.ep) ∧ w.cell? ⟨g, 4, none⟩ = some (.int .i64 R.ver) ∧ w.cell? ⟨g, 5, none⟩ = some (.slice a.CA a.cn a.cc) ∧ ∀ i, w.frozen? ⟨g, i, none⟩ = false := by
  refine ⟨?_, ?_, ?_, ?_, ?_, ?_, h.frozen⟩ <;> rw [h.cell] <;> rfl

set_option maxRecDepth 100000 in
set_option maxHeartbeats 800000 in
theorem split_any (R : Ro) (a : RA) (key : ByteArray) (w : World) (h : RR w a R) : Calls Tryd.prog 16 #[rval a R, .string key] w (RouOk (splitR R key) w) := by
  obtain ⟨KA, kn, kc, CA, cn, cc⟩ := a
  have H := Lib.hid h
  clear h
  have B0 : Hid (Blk ((w.alloc (Obj.cells (rarr ⟨KA, kn, kc, CA, cn, cc⟩ R) 30)).alloc (Obj.cells (rarr RA.zero Ro.zero) 30)) w.heap.size 30 (rarr ⟨KA, kn, kc, CA, cn, cc⟩ R)) := (Blk.new_at rfl).alloc _
  have B1 : Hid (Blk ((w.alloc (Obj.cells (rarr ⟨KA, kn, kc, CA, cn, cc⟩ R) 30)).alloc (Obj.cells (rarr RA.zero Ro.zero) 30)) (w.heap.size + 1) 30 (rarr RA.zero Ro.zero)) := Blk.new_at (by simp)
  have BE : Hid (Below w.heap.size w ((w.alloc (Obj.cells (rarr ⟨KA, kn, kc, CA, cn, cc⟩ R) 30)).alloc (Obj.cells (rarr RA.zero Ro.zero) 30))) := ((Below.refl _ _).alloc (Nat.le_refl _) _).alloc (by simp) _
  go_enter Tryd.func16, Tryd.ntmps16
  go_upto_region 1 with fail
  change (Code.region 1 _ _).wp _ _ _ ((w.alloc (Obj.cells (rarr ⟨KA, kn, kc, CA, cn, cc⟩ R) 30)).alloc (Obj.cells (rarr RA.zero Ro.zero) 30))
  generalize (w.alloc (Obj.cells (rarr ⟨KA, kn, kc, CA, cn, cc⟩ R) 30)).alloc (Obj.cells (rarr RA.zero Ro.zero) 30) = wa at *
  obtain ⟨q0, q1, q2, q3, q4, q5, qz⟩ := blk_ro B0.out
  simp only at q1 q5
  go_wp2_with fail
  clear q0 q1 q2 q3 q4 q5 qz
  refine (find_any R ⟨KA, kn, kc, CA, cn, cc⟩ key wa (H.out.step BE.out)).mono ?_
  rintro e w1 ⟨rfl, hb1⟩
  have D0 := Lib.hid (B0.out.step hb1)
  have D1 := Lib.hid (B1.out.step hb1)
  have DE := Lib.hid (BE.out.step' hb1)
  clear hb1 B0 B1 BE
  cases hk0 : (key.toList == [])
  rotate_left
  · have HV : Hid (splitR R key = (Ro.zero, 1)) := by unfold Hid splitR; rw [if_pos (.inl (by simpa using hk0))]
    obtain ⟨r0, r1, r2, r3, r4, r5, rz⟩ := blk_ro D1.out
    have E := Lib.hid (change_err 1 D1.out (by omega) DE.out)
    go_wp2_with fail
    refine bodyPost_ret (results_ro_err rfl _ (w.heap.size + 1) rfl _ rfl _ RA.zero Ro.zero E.out.2) rfl ?_
    exact E.out.1.eq HV.out
  obtain ⟨q0, q1, q2, q3, q4, q5, qz⟩ := blk_ro D0.out
  simp only at q1 q5
  go_wp2_with fail
  clear q0 q1 q2 q3 q4 q5 qz
  refine (begins_any R ⟨KA, kn, kc, CA, cn, cc⟩ key w1 (H.out.step DE.out)).mono ?_
  rintro e w2 ⟨rfl, hb2⟩
  have F0 := Lib.hid (D0.out.step hb2)
  have F1 := Lib.hid (D1.out.step hb2)
  have FE := Lib.hid (DE.out.step' hb2)
  clear hb2 D0 D1 DE
  by_cases hbg : 0 ≤ idxI (begB key) R.cs
  · have HV : Hid (splitR R key = (Ro.zero, 1)) := by unfold Hid splitR; rw [if_pos (.inr (.inl hbg))]
    obtain ⟨r0, r1, r2, r3, r4, r5, rz⟩ := blk_ro F1.out
    have E := Lib.hid (change_err 1 F1.out (by omega) FE.out)
    go_wp2_with fail
    refine bodyPost_ret (results_ro_err rfl _ (w.heap.size + 1) rfl _ rfl _ RA.zero Ro.zero E.out.2) rfl ?_
    exact E.out.1.eq HV.out
  rcases idxI_range (inB key) R.cs with ⟨hf, _⟩ | ⟨i, c, hf, hic, hin, _⟩
  · have HV : Hid (splitR R key = (Ro.zero, 1)) := by unfold Hid splitR; rw [if_pos (.inr (.inr (by omega)))]
    obtain ⟨r0, r1, r2, r3, r4, r5, rz⟩ := blk_ro F1.out
    have E := Lib.hid (change_err 1 F1.out (by omega) FE.out)
    rw [hf]
    clear hf
    go_wp2_with fail
    refine bodyPost_ret (results_ro_err rfl _ (w.heap.size + 1) rfl _ rfl _ RA.zero Ro.zero E.out.2) rfl ?_
    exact E.out.1.eq HV.out
  rw [hf]
  have hn : Hid (cn = R.cs.length) := H.out.cs.ln
  have HV : Hid (splitR R key = if 64 ≤ R.cs.length then (Ro.zero, 2) else if c.ju then (Ro.zero, 23) else (⟨R.sp, R.ks, R.ha, R.ep, nx R.ver, repl R.cs i 1 [⟨c.lo, key, c.sh, nx R.ver, c.ju⟩, ⟨key, c.hi, c.sh, nx R.ver, c.ju⟩]⟩, 0)) := by
    unfold Hid splitR
    rw [if_neg (by rintro (h | h | h); simp [h] at hk0; exact hbg h; omega), hf, Int.toNat_natCast, hic]
  have HIC := Lib.hid hic
  clear hic hin hf
  obtain ⟨q0, q1, q2, q3, q4, q5, qz⟩ := blk_ro F0.out
  simp only at q1 q5
  by_cases h64 : 64 ≤ cn
  · have HV : Hid (splitR R key = (Ro.zero, 2)) := by rw [Hid, HV.out, if_pos (by rw [← hn.out]; exact h64)]
    obtain ⟨r0, r1, r2, r3, r4, r5, rz⟩ := blk_ro F1.out
    have E := Lib.hid (change_err 2 F1.out (by omega) FE.out)
    go_wp2_with fail
    refine bodyPost_ret (results_ro_err rfl _ (w.heap.size + 1) rfl _ rfl _ RA.zero Ro.zero E.out.2) rfl ?_
    exact E.out.1.eq HV.out
  have hicn : i < cn := by rw [hn.out]; exact (List.getElem?_eq_some_iff.1 HIC.out).1
  obtain ⟨b, off, x, hA, hbl, hx, _, _, _, _, e4⟩ := H.out.cs.sr.at5 hicn
  rw [HIC.out] at hx
  injection hx with hx
  subst hx
  simp only at hA
  subst hA
  have j4 := (FE.out.cell (p := ⟨b, off + i * 5 + 4, none⟩) hbl).trans e4
  clear e4
  cases hju : c.ju
  rotate_left
  · have HV : Hid (splitR R key = (Ro.zero, 23)) := by rw [Hid, HV.out, if_neg (by rw [← hn.out]; omega), if_pos hju]
    obtain ⟨r0, r1, r2, r3, r4, r5, rz⟩ := blk_ro F1.out
    have E := Lib.hid (change_err 23 F1.out (by omega) FE.out)
    rw [hju] at j4
    go_wp2_with fail
    refine bodyPost_ret (results_ro_err rfl _ (w.heap.size + 1) rfl _ rfl _ RA.zero Ro.zero E.out.2) rfl ?_
    exact E.out.1.eq HV.out
  rw [hju] at j4
  have hch := changed_any w.heap.size R ⟨KA, kn, kc, some ⟨b, off, none⟩, cn, cc⟩ w2 FE.out.size (H.out.ks.toB FE.out) (H.out.cs.step FE.out)
  have hSR : R.nx.cs = R.cs := rfl
  obtain ⟨S, hS⟩ : ∃ S, S = R.nx := ⟨_, rfl⟩
  rw [← hS] at hch hSR
  have HS := Lib.hid hS
  have HSR := Lib.hid hSR
  clear hS hSR
  have HCH := Lib.hid hch
  clear hch
  go_wp2_with fail
  clear q0 q1 q2 q3 q4 q5 qz j4
  refine HCH.out.mono ?_
  rintro e w3 ⟨⟨KA', kn', kc', CA', cn', cc'⟩, rfl, hks, hown, hln, hcz, hb3⟩
  have hN := F0.out.lt
  have hN1 := F1.out.lt
  have hcn' : cn' = cn := by rw [hn.out, ← HSR.out]; exact hln
  have V0 := Lib.hid (Vr.of (B := w.heap.size) (w := w) (lo := w2.heap.size) (N := w.heap.size) (F0.out.step hb3) (Nat.le_refl _) hN hks hown hln hcz hb3.size (FE.out.step' hb3))
  have V1 : Hid (Blk (setR w3 w.heap.size ⟨KA', kn', kc', CA', cn', cc'⟩ S) (w.heap.size + 1) 30 (rarr RA.zero Ro.zero)) := (heap_setR _ _ _ _ _ (by omega)).trans (F1.out.step hb3)
  obtain ⟨q0, q1, q2, q3, q4, q5, qz⟩ := blk_ro (F0.out.step hb3)
  simp only at q1 q5
  subst hcn'
  clear hks hown hb3
  have HCZ := Lib.hid hcz
  clear hcz hln
  have hh2 := Lib.hid (show w2.heap.size ≤ w3.heap.size from V0.out.hn.2.2.1)
  go_upto_region 9 with fail
  clear q0 q1 q2 q3 q4 q5 qz
  change (Code.region 9 _ _).wp _ _ _ (setR w3 w.heap.size ⟨KA', kn', kc', CA', cn', cc'⟩ S)
  generalize setR w3 w.heap.size ⟨KA', kn', kc', CA', cn', cc'⟩ S = w4 at *
  rw [HSR.out] at V0
  obtain ⟨g, hgA, hgl, hgh, hgc⟩ := V0.out.get HIC.out
  simp only at hgA
  subst hgA
  obtain ⟨q0, q1, q2, q3, q4, q5, qz⟩ := blk_ro V0.out.b0
  simp only at q1 q5
  obtain ⟨c3, z3⟩ := hgc 3 _ rfl
  have HGC := Lib.hid hgc
  clear hgc
  have W0 := Lib.hid (V0.out.put (g := g) rfl HIC.out (j := 3) (v := .int .i64 S.ver) (c' := ⟨c.lo, c.hi, c.sh, S.ver, c.ju⟩) (by omega) rfl)
  have W1 := Lib.hid (V1.out.far (p := ⟨g, i * 5 + 3, none⟩) (by show w.heap.size + 1 ≠ g; omega) (.int .i64 S.ver))
  go_upto_region 10 with fail
  clear q0 q1 q2 q3 q4 q5 qz c3 z3 HGC V0 V1
  generalize w4.setCell ⟨g, i * 5 + 3, none⟩ (.int .i64 S.ver) = w5 at *
  have hi' : (R.cs.set i ⟨c.lo, c.hi, c.sh, S.ver, c.ju⟩)[i]? = some ⟨c.lo, c.hi, c.sh, S.ver, c.ju⟩ := by rw [List.getElem?_set, if_pos rfl, if_pos (List.getElem?_eq_some_iff.1 HIC.out).1]
  have HI' := Lib.hid hi'
  clear hi'
  obtain ⟨g', hgA, _, _, hgc⟩ := W0.out.get HI'.out
  injection hgA with hgA
  injection hgA with hgA
  subst hgA
  obtain ⟨q0, q1, q2, q3, q4, q5, qz⟩ := blk_ro W0.out.b0
  simp only at q1 q5
  have c0 := (hgc 0 _ rfl).1
  have c1 := (hgc 1 _ rfl).1
  have c2 := (hgc 2 _ rfl).1
  have c3 := (hgc 3 _ rfl).1
  have c4 := (hgc 4 _ rfl).1
  simp only [Nat.add_zero] at c0
  have z1 := (hgc 1 _ rfl).2
  clear hgc
  go_upto_region 12 with fail
  have X0 := Lib.hid (W0.out.step ((Below.refl w5.heap.size w5).alloc (Nat.le_refl _) (Obj.cells #[.string key, .string c.hi, .int .i64 c.sh, .int .i64 S.ver, .bool false] 45)))
  have X1 := Lib.hid (W1.out.alloc (Obj.cells #[.string key, .string c.hi, .int .i64 c.sh, .int .i64 S.ver, .bool false] 45))
  have X2 : Hid (Blk (w5.alloc (Obj.cells #[.string key, .string c.hi, .int .i64 c.sh, .int .i64 S.ver, .bool false] 45)) w5.heap.size 45 #[.string key, .string c.hi, .int .i64 c.sh, .int .i64 S.ver, .bool false]) := Blk.new_at rfl
  have hgU : g < w5.heap.size := by have := W0.out.hn; omega
  have hNU : w.heap.size + 1 < w5.heap.size := W1.out.lt
  clear q0 q1 q2 q3 q4 q5 qz c0 c1 c2 c3 c4 z1 W0 W1
  generalize w5.alloc (Obj.cells #[.string key, .string c.hi, .int .i64 c.sh, .int .i64 S.ver, .bool false] 45) = w6 at *
  generalize w5.heap.size = U at *
  obtain ⟨g', hgA, _, _, hgc⟩ := X0.out.get HI'.out
  injection hgA with hgA
  injection hgA with hgA
  subst hgA
  obtain ⟨c1, z1⟩ := hgc 1 _ rfl
  clear hgc
  obtain ⟨q0, q1, q2, q3, q4, q5, qz⟩ := blk_ro X0.out.b0
  simp only at q1 q5
  have hset : (R.cs.set i ⟨c.lo, c.hi, c.sh, S.ver, c.ju⟩).set i ⟨c.lo, key, c.sh, S.ver, c.ju⟩ = R.cs.set i ⟨c.lo, key, c.sh, S.ver, c.ju⟩ := set_two
  have Y0 := Lib.hid (X0.out.put (g := g) rfl HI'.out (j := 1) (v := .string key) (c' := ⟨c.lo, key, c.sh, S.ver, c.ju⟩) (by omega) rfl)
  rw [hset] at Y0
  clear hset
  have Y1 := Lib.hid (X1.out.far (p := ⟨g, i * 5 + 1, none⟩) (by show w.heap.size + 1 ≠ g; omega) (.string key))
  have Y2 := Lib.hid (X2.out.far (p := ⟨g, i * 5 + 1, none⟩) (by show U ≠ g; omega) (.string key))
  go_upto_region 13 with fail
  clear q0 q1 q2 q3 q4 q5 qz c1 z1 X0 X1 X2
  generalize w6.setCell ⟨g, i * 5 + 1, none⟩ (.string key) = w7 at *
  obtain ⟨q0, q1, q2, q3, q4, q5, qz⟩ := blk_ro Y0.out.b0
  simp only at q1 q5
  have u0 := Y2.out.cell 0
  have u1 := Y2.out.cell 1
  have u2 := Y2.out.cell 2
  have u3 := Y2.out.cell 3
  have u4 := Y2.out.cell 4
  simp at u0 u1 u2 u3 u4
  have Z0 := Lib.hid (Y0.out.step ((Below.refl w7.heap.size w7).alloc (Nat.le_refl _) (Obj.cells #[.string key, .string c.hi, .int .i64 c.sh, .int .i64 S.ver, .bool false] 45)))
  have Z1 := Lib.hid (Y1.out.alloc (Obj.cells #[.string key, .string c.hi, .int .i64 c.sh, .int .i64 S.ver, .bool false] 45))
  have Z2 : Hid (Blk (w7.alloc (Obj.cells #[.string key, .string c.hi, .int .i64 c.sh, .int .i64 S.ver, .bool false] 45)) w7.heap.size 45 (recC ⟨key, c.hi, c.sh, S.ver, false⟩).toArray) := Blk.new_at rfl
  have hgV : g < w7.heap.size := by have := Y0.out.hn; omega
  have hnz : (cn' + 1) * 56 ≤ reach := by unfold reach; omega
  have hwr : ((i : Int) + 1) = ((i + 1 : Nat) : Int) := by omega
  have HI3 := Lib.hid (insertC_any (R.cs.set i ⟨c.lo, key, c.sh, S.ver, c.ju⟩) ⟨key, c.hi, c.sh, S.ver, false⟩ w2.heap.size g cn' cc' (i + 1) w7.heap.size ((i : Int) + 1) _ Z0.out.own Z2.out (by omega) (by omega) hnz (by have := Z0.out.hn; omega) hwr)
  have HH := Lib.hid Z0.out.hn
  clear hwr hnz Z2
  go_wp2_with fail
  clear q0 q1 q2 q3 q4 q5 qz u0 u1 u2 u3 u4
  refine HI3.out.mono ?_
  rintro e w9 ⟨A, c9, rfl, hown9, hg9⟩
  have hNg : some w.heap.size ≠ some g := by simp; omega
  have hNg1 : some (w.heap.size + 1) ≠ some g := by simp; omega
  have P0 := Lib.hid (Z0.out.b0.grown hg9 hNg)
  have P1 := Lib.hid (Z1.out.grown hg9 hNg1)
  obtain ⟨q0, q1, q2, q3, q4, q5, qz⟩ := blk_ro P0.out
  simp only at q1 q5
  have G0 : Hid (Blk (w9.setCell ⟨w.heap.size, 5, none⟩ (.slice A (cn' + 1) c9)) w.heap.size 30 (rarr ⟨KA', kn', kc', A, cn' + 1, c9⟩ S)) := P0.out.set_ 5 _
  have G1 : Hid (Blk (w9.setCell ⟨w.heap.size, 5, none⟩ (.slice A (cn' + 1) c9)) (w.heap.size + 1) 30 (rarr RA.zero Ro.zero)) := P1.out.far (by show w.heap.size + 1 ≠ w.heap.size; omega) _
  have G2 := Lib.hid (own_far hown9 (p := ⟨w.heap.size, 5, none⟩) (fun e => by have := own_ge hown9 _ e; simp only at this; omega) (.slice A (cn' + 1) c9))
  have G3 : Hid (KSF (fun b => b < w.heap.size ∨ w2.heap.size ≤ b) (w9.setCell ⟨w.heap.size, 5, none⟩ (.slice A (cn' + 1) c9)) KA' kn' kc' S.ks) :=
    Z0.out.ks.keep (by have := hg9.size; simpa [World.setCell] using this) fun b hF hlt => ⟨hF.1.1, by rw [Below.heap_setCell _ _ _ b (by show b ≠ w.heap.size; have := hF.1.1; omega)]; exact hg9.block b hlt (fun e => hF.2 (by injection e with e; rw [e]; rfl))⟩
  have G4 : Hid (Below w.heap.size w (w9.setCell ⟨w.heap.size, 5, none⟩ (.slice A (cn' + 1) c9))) := (Z0.out.bel.grown hg9 (by have := Z0.out.hn; omega) (fun k hk => by injection hk with hk; omega)).setCell (Nat.le_refl _) _
  go_upto_region 14 with fail
  clear q0 q1 q2 q3 q4 q5 qz hown9 hg9 P0 P1 Z0 Z1 HI3
  generalize w9.setCell ⟨w.heap.size, 5, none⟩ (.slice A (cn' + 1) c9) = w10 at *
  obtain ⟨q0, q1, q2, q3, q4, q5, qz⟩ := blk_ro G0.out
  simp only at q1 q5
  obtain ⟨r0, r1, r2, r3, r4, r5, rz⟩ := blk_ro G1.out
  have HVS : Hid (splitR R key = (⟨S.sp, S.ks, S.ha, S.ep, S.ver, (R.cs.set i ⟨c.lo, key, c.sh, S.ver, c.ju⟩).take (i + 1) ++ [⟨key, c.hi, c.sh, S.ver, false⟩] ++ (R.cs.set i ⟨c.lo, key, c.sh, S.ver, c.ju⟩).drop (i + 1)⟩, 0)) := by
    rw [Hid, HV.out, if_neg (by rw [← hn.out]; omega), if_neg (by rw [hju]; simp), insert_repl (by rw [← hn.out]; exact hicn), HS.out, hju]
    rfl
  have E := Lib.hid (change_end (R := ⟨S.sp, S.ks, S.ha, S.ep, S.ver, (R.cs.set i ⟨c.lo, key, c.sh, S.ver, c.ju⟩).take (i + 1) ++ [⟨key, c.hi, c.sh, S.ver, false⟩] ++ (R.cs.set i ⟨c.lo, key, c.sh, S.ver, c.ju⟩).drop (i + 1)⟩) (a := ⟨KA', kn', kc', A, cn' + 1, c9⟩) rfl G1.out (by omega) (by omega) (by rw [HS.out]; exact H.out.sp) G3.out G2.out (by simp; have := hn.out; omega) (by show (cn' + 1) * 56 ≤ reach; unfold reach; omega) G4.out)
  clear G0 G1 G2 G3 G4 HV HS HSR
  go_wp2_with fail
  clear q0 q1 q2 q3 q4 q5 qz r0 r1 r2 r3 r4 r5 rz
  refine bodyPost_ret (results_ro_err rfl _ (w.heap.size + 1) rfl _ rfl _ ⟨KA', kn', kc', A, cn' + 1, c9⟩ _ E.out.2) rfl ?_
  exact E.out.1.eq HVS.out

end Go.Proofs.YtgcklgkhdokchaaDoor
