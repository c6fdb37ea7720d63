/- The walk of ChunksKeeps. Printed by gen_chlaws49.py. -/
import Derived.Test.YtgcklgkhdokchaaDoorChAwake
import Derived.Test.YtgcklgkhdokchaaDoorChLawA
import Derived.Test.YtgcklgkhdokchaaDoorChRefValid
import Derived.Test.YtgcklgkhdokchaaDoorChSame
import Derived.Test.YtgcklgkhdokchaaDoorChChg
namespace Go.Proofs.YtgcklgkhdokchaaDoor
open Go.RowKit

set_option maxRecDepth 100000 in
set_option maxHeartbeats 2000000 in
theorem chunksKeeps_walk (R : Ro) (a : RA) (k : Int) (key : ByteArray) (z : Int) (j : Bool) (kk : ByteArray) (w : World) (hT : Tabs w) (h : RR w a R) :
    Calls Tryd.prog 7 #[rval a R, .agg #[.int .i64 k, .string key, .int .i64 z, .bool j], .string kk] w fun e w' => e = .returned (.bool true) ∧ Below w.heap.size w w' := by
  obtain ⟨KA, kn, kc, CA, cn, cc⟩ := a
  have HT := Lib.hid hT
  have H := Lib.hid h
  clear hT h
  have B0 : Hid (Blk ((w.alloc (Obj.cells (rarr ⟨KA, kn, kc, CA, cn, cc⟩ R) 30)).alloc (Obj.cells #[.int .i64 k, .string key, .int .i64 z, .bool j] 40)) w.heap.size 30 (rarr ⟨KA, kn, kc, CA, cn, cc⟩ R)) := (Blk.new_at rfl).alloc _
  have B1 : Hid (Blk ((w.alloc (Obj.cells (rarr ⟨KA, kn, kc, CA, cn, cc⟩ R) 30)).alloc (Obj.cells #[.int .i64 k, .string key, .int .i64 z, .bool j] 40)) (w.heap.size + 1) 40 #[.int .i64 k, .string key, .int .i64 z, .bool j]) := Blk.new_at (by simp)
  have BE : Hid (Below w.heap.size w ((w.alloc (Obj.cells (rarr ⟨KA, kn, kc, CA, cn, cc⟩ R) 30)).alloc (Obj.cells #[.int .i64 k, .string key, .int .i64 z, .bool j] 40))) := ((Below.refl _ _).alloc (Nat.le_refl _) _).alloc (by simp) _
  go_enter Tryd.func7, Tryd.ntmps7
  go_upto_region 1 with fail
  change (Code.region 1 _ _).wp _ _ _ ((w.alloc (Obj.cells (rarr ⟨KA, kn, kc, CA, cn, cc⟩ R) 30)).alloc (Obj.cells #[.int .i64 k, .string key, .int .i64 z, .bool j] 40))
  generalize (w.alloc (Obj.cells (rarr ⟨KA, kn, kc, CA, cn, cc⟩ R) 30)).alloc (Obj.cells #[.int .i64 k, .string key, .int .i64 z, .bool j] 40) = wa at *
  obtain ⟨q0, q1, q2, q3, q4, q5, qz⟩ := blk_ro B0.out
  simp only at q1 q5
  have k0 := B1.out.cell 0
  have k1 := B1.out.cell 1
  have k2 := B1.out.cell 2
  have k3 := B1.out.cell 3
  simp at k0 k1 k2 k3
  have hfw := few_any R ⟨KA, kn, kc, CA, cn, cc⟩ wa (H.out.step BE.out)
  cases hF : fewB R
  · rw [hF] at hfw
    have HFW := Lib.hid hfw
    clear hfw
    go_wp2_with fail
    refine HFW.out.mono ?_
    rintro e w1 ⟨rfl, hb⟩
    have CE := Lib.hid (BE.out.step' hb)
    clear hb q0 q1 q2 q3 q4 q5 qz k0 k1 k2 k3
    go_wp2_with fail
    refine (awake49_any w1 (HT.out.step CE.out)).mono ?_
    rintro e wz0 ⟨rfl, hbz⟩
    go_wp2_with fail
    go_ret
    exact ⟨rfl, CE.out.step' hbz⟩
  rw [hF] at hfw
  have HFW := Lib.hid hfw
  clear hfw
  go_wp2_with fail
  clear q0 q1 q2 q3 q4 q5 qz k0 k1 k2 k3
  refine HFW.out.mono ?_
  rintro e w1 ⟨rfl, hb⟩
  have C0 := Lib.hid (B0.out.step hb)
  have C1 := Lib.hid (B1.out.step hb)
  have CE := Lib.hid (BE.out.step' hb)
  clear hb HFW B0 B1 BE
  obtain ⟨q0, q1, q2, q3, q4, q5, qz⟩ := blk_ro C0.out
  simp only at q1 q5
  have k0 := C1.out.cell 0
  have k1 := C1.out.cell 1
  have k2 := C1.out.cell 2
  have k3 := C1.out.cell 3
  simp at k0 k1 k2 k3
  have HVL := Lib.hid (rvalid49_any R ⟨KA, kn, kc, CA, cn, cc⟩ w1 (H.out.step CE.out))
  by_cases hv0 : routE R = 0
  rotate_left
  · have hv1 : (routE R != 0) = true := by simpa using hv0
    go_wp2_with fail
    refine HVL.out.mono ?_
    rintro e w2 ⟨rfl, hb⟩
    have DE := Lib.hid (CE.out.step' hb)
    clear hb HVL q0 q1 q2 q3 q4 q5 qz k0 k1 k2 k3
    go_wp2_with fail
    refine (awake49_any w2 (HT.out.step DE.out)).mono ?_
    rintro e wz1 ⟨rfl, hbz⟩
    go_wp2_with fail
    go_ret
    exact ⟨rfl, DE.out.step' hbz⟩
  have HVR := Lib.hid ((routE_iff R).1 hv0)
  have HP := Lib.hid HVR.out.path
  go_wp2_with fail
  clear q0 q1 q2 q3 q4 q5 qz k0 k1 k2 k3
  refine HVL.out.mono ?_
  rintro e w2 ⟨rfl, hb⟩
  rw [hv0]
  clear hv0
  have D0 := Lib.hid (C0.out.step hb)
  have D1 := Lib.hid (C1.out.step hb)
  have DE := Lib.hid (CE.out.step' hb)
  clear hb HVL C0 C1 CE
  obtain ⟨q0, q1, q2, q3, q4, q5, qz⟩ := blk_ro D0.out
  simp only at q1 q5
  have k0 := D1.out.cell 0
  have k1 := D1.out.cell 1
  have k2 := D1.out.cell 2
  have k3 := D1.out.cell 3
  simp at k0 k1 k2 k3
  by_cases hvr : 1152921504606846976 < R.ver
  · go_wp2_with fail
    clear q0 q1 q2 q3 q4 q5 qz k0 k1 k2 k3
    refine (awake49_any w2 (HT.out.step DE.out)).mono ?_
    rintro e wz2 ⟨rfl, hbz⟩
    go_wp2_with fail
    go_ret
    exact ⟨rfl, DE.out.step' hbz⟩
  have HVV : Hid (R.ver ≤ 1152921504606846976) := Int.not_lt.1 hvr
  go_upto_region 3 with fail
  clear hvr
  have HCH := Lib.hid (change_any R ⟨KA, kn, kc, CA, cn, cc⟩ k key z j w2 (H.out.step DE.out) HP.out)
  have hkl := keeps_law (k := k) (key := key) (z := z) (j := j) kk HVR.out HVV.out
  obtain ⟨rr, hrr⟩ : ∃ rr, rr = changeR R k key z j := ⟨_, rfl⟩
  rw [← hrr] at HCH hkl
  have HKL := Lib.hid hkl
  clear hrr hkl
  go_wp2_with fail
  clear q0 q1 q2 q3 q4 q5 qz k0 k1 k2 k3
  refine HCH.out.mono ?_
  rintro e w3 ⟨⟨KA1, kn1, kc1, CA1, cn1, cc1⟩, rfl, hr1, hb1⟩
  obtain ⟨S, er⟩ := rr
  simp only at hr1
  have E0 := Lib.hid ((D0.out.step hb1).alloc (Obj.cells (rarr ⟨KA1, kn1, kc1, CA1, cn1, cc1⟩ S) 30))
  have E1 := Lib.hid ((D1.out.step hb1).alloc (Obj.cells (rarr ⟨KA1, kn1, kc1, CA1, cn1, cc1⟩ S) 30))
  have EE := Lib.hid ((DE.out.step' hb1).alloc (DE.out.step' hb1).size (Obj.cells (rarr ⟨KA1, kn1, kc1, CA1, cn1, cc1⟩ S) 30))
  have ER := Lib.hid (hr1.alloc (Obj.cells (rarr ⟨KA1, kn1, kc1, CA1, cn1, cc1⟩ S) 30))
  have ES : Hid (Blk (w3.alloc (Obj.cells (rarr ⟨KA1, kn1, kc1, CA1, cn1, cc1⟩ S) 30)) w3.heap.size 30 (rarr ⟨KA1, kn1, kc1, CA1, cn1, cc1⟩ S)) := Blk.new_at rfl
  clear hb1 hr1 HCH D0 D1 DE
  go_upto_region 4 with fail
  change (Code.region 4 _ _).wp _ _ _ (w3.alloc (Obj.cells (rarr ⟨KA1, kn1, kc1, CA1, cn1, cc1⟩ S) 30))
  generalize w3.alloc (Obj.cells (rarr ⟨KA1, kn1, kc1, CA1, cn1, cc1⟩ S) 30) = w4 at *
  generalize w3.heap.size = g1 at *
  rcases HKL.out with ⟨hne, hz⟩ | ⟨hz, hok⟩
  · replace hne : er ≠ 0 := hne
    replace hz : S = Ro.zero := hz
    subst hz
    have herb : (er != 0) = true := by simpa using hne
    obtain ⟨q0, q1, q2, q3, q4, q5, qz⟩ := blk_ro ES.out
    simp only at q1 q5
    have hSM := same49_any Ro.zero Ro.zero ⟨KA1, kn1, kc1, CA1, cn1, cc1⟩ RA.zero w4 ER.out RR.zero
    rw [sameRo_refl] at hSM
    have HSM := Lib.hid hSM
    clear hSM
    go_wp2_with fail
    clear q0 q1 q2 q3 q4 q5 qz
    refine HSM.out.mono ?_
    rintro e w5 ⟨rfl, hb3⟩
    have FE := Lib.hid (EE.out.step' hb3)
    clear hb3
    go_wp2_with fail
    refine (awake49_any w5 (HT.out.step FE.out)).mono ?_
    rintro e wz3 ⟨rfl, hbz⟩
    go_wp2_with fail
    go_ret
    exact ⟨rfl, FE.out.step' hbz⟩
  replace hz : er = 0 := hz
  replace hok : KeepOk R S k key z kk := hok
  subst hz
  obtain ⟨Ssp, Sks, Sha, Sep, Sver, Scs⟩ := S
  obtain ⟨hvs, hs1, hs2, hver, ⟨i, c, m, d, hi, hix, hm, hmx, hsh⟩⟩ := hok
  simp only at hs1 hs2 hver hm hmx hsh
  subst hs1 hs2
  have HVS := Lib.hid ((routE_iff _).2 hvs)
  have HVER := Lib.hid hver
  have HI := Lib.hid hi
  have HM := Lib.hid hm
  have HSH := Lib.hid hsh
  have HLT : Hid (i < cn) := by have h1 : cn = R.cs.length := H.out.cs.ln; have := getElem?_lt hi; unfold Hid; omega
  have HLM : Hid (m < cn1) := by have h1 : cn1 = Scs.length := ER.out.cs.ln; have := getElem?_lt hm; unfold Hid; omega
  go_upto_region 6 with fail
  obtain ⟨q0, q1, q2, q3, q4, q5, qz⟩ := blk_ro E0.out
  simp only at q1 q5
  have P0 : ∀ q : BW w4, q.val.cell? ⟨w.heap.size, 0, none⟩ = some (.string R.sp) := fun q => q.cell q0
  have P1 : ∀ q : BW w4, q.val.cell? ⟨w.heap.size, 1, none⟩ = some (.slice KA kn kc) := fun q => q.cell q1
  have P2 : ∀ q : BW w4, q.val.cell? ⟨w.heap.size, 2, none⟩ = some (.bool R.ha) := fun q => q.cell q2
  have P3 : ∀ q : BW w4, q.val.cell? ⟨w.heap.size, 3, none⟩ = some (.int .i64 R.ep) := fun q => q.cell q3
  have P4 : ∀ q : BW w4, q.val.cell? ⟨w.heap.size, 4, none⟩ = some (.int .i64 R.ver) := fun q => q.cell q4
  have P5 : ∀ q : BW w4, q.val.cell? ⟨w.heap.size, 5, none⟩ = some (.slice CA cn cc) := fun q => q.cell q5
  clear q0 q1 q2 q3 q4 q5 qz
  obtain ⟨q0, q1, q2, q3, q4, q5, qz⟩ := blk_ro ES.out
  simp only at q1 q5
  have O0 : ∀ q : BW w4, q.val.cell? ⟨g1, 0, none⟩ = some (.string R.sp) := fun q => q.cell q0
  have O1 : ∀ q : BW w4, q.val.cell? ⟨g1, 1, none⟩ = some (.slice KA1 kn1 kc1) := fun q => q.cell q1
  have O2 : ∀ q : BW w4, q.val.cell? ⟨g1, 2, none⟩ = some (.bool Sha) := fun q => q.cell q2
  have O3 : ∀ q : BW w4, q.val.cell? ⟨g1, 3, none⟩ = some (.int .i64 R.ep) := fun q => q.cell q3
  have O4 : ∀ q : BW w4, q.val.cell? ⟨g1, 4, none⟩ = some (.int .i64 Sver) := fun q => q.cell q4
  have O5 : ∀ q : BW w4, q.val.cell? ⟨g1, 5, none⟩ = some (.slice CA1 cn1 cc1) := fun q => q.cell q5
  clear q0 q1 q2 q3 q4 q5 qz
  have K1 : Hid (∀ q : BW w4, Calls Tryd.prog 18 #[rval ⟨KA, kn, kc, CA, cn, cc⟩ R, .string kk] q.val fun e w'' => e = .returned (.int .i64 (i : Nat)) ∧ ∃ q : BW w4, w'' = q.val) := fun q =>
    Calls.bw (by rw [← hix]; exact find_any R ⟨KA, kn, kc, CA, cn, cc⟩ kk q.val ((H.out.step EE.out).step q.below))
  have K2 : Hid (∀ q : BW w4, Calls Tryd.prog 18 #[rval ⟨KA1, kn1, kc1, CA1, cn1, cc1⟩ ⟨R.sp, Sks, Sha, R.ep, Sver, Scs⟩, .string kk] q.val fun e w'' => e = .returned (.int .i64 (m : Nat)) ∧ ∃ q : BW w4, w'' = q.val) := fun q =>
    Calls.bw (by rw [← hmx]; exact find_any ⟨R.sp, Sks, Sha, R.ep, Sver, Scs⟩ ⟨KA1, kn1, kc1, CA1, cn1, cc1⟩ kk q.val (ER.out.step q.below))
  clear hi hix hm hmx hsh hvs hver
  refine wp_region_bw (by kernel_rfl) (by kernel_rfl) ?_
  repeat (go_big_quiet_step (first | (with_reducible exact K1.out _) | (with_reducible exact K2.out _)))
  refine wpQuiet_nil ?_
  rintro _ ⟨kw, rfl⟩
  have F0 := Lib.hid (E0.out.step kw.below)
  have F1 := Lib.hid (E1.out.step kw.below)
  have FE := Lib.hid (EE.out.step' kw.below)
  have FR := Lib.hid (ER.out.step kw.below)
  have FS := Lib.hid (ES.out.step kw.below)
  clear P0 P1 P2 P3 P4 P5 O0 O1 O2 O3 O4 O5 K1 K2 E0 E1 EE ER ES HKL
  generalize kw.val = w5 at *
  clear kw w4
  obtain ⟨q0, q1, q2, q3, q4, q5, qz⟩ := blk_ro FS.out
  simp only at q1 q5
  have hvl := valid49_any ⟨R.sp, Sks, Sha, R.ep, Sver, Scs⟩ ⟨KA1, kn1, kc1, CA1, cn1, cc1⟩ w5 (HT.out.step FE.out) FR.out
  rw [HVS.out] at hvl
  have HVL := Lib.hid hvl
  clear hvl
  have i0 : (0 : Int) ≤ (i : Int) := by omega
  have m0 : (0 : Int) ≤ (m : Int) := by omega
  have i1 : (i : Int) < (cn : Int) := by have := HLT.out; omega
  have m1 : (m : Int) < (cn1 : Int) := by have := HLM.out; omega
  go_upto_region 7 with fail
  go_wp2_with fail
  clear q0 q1 q2 q3 q4 q5 qz
  refine HVL.out.mono ?_
  rintro e w6 ⟨rfl, hb⟩
  have G0 := Lib.hid (F0.out.step hb)
  have G1 := Lib.hid (F1.out.step hb)
  have GE := Lib.hid (FE.out.step' hb)
  have GR := Lib.hid (FR.out.step hb)
  have GS := Lib.hid (FS.out.step hb)
  clear F0 F1 FE FR FS HVL hb w5
  go_upto_region 9 with fail
  have W1 : IntKind.i64.wrap (R.ver + 1) = R.ver + 1 := by have h1 := HVV.out; have h2 := HVR.out.ver; rw [IntKind.wrap_i64]; omega
  obtain ⟨q0, q1, q2, q3, q4, q5, qz⟩ := blk_ro G0.out
  obtain ⟨r0, r1, r2, r3, r4, r5, rz⟩ := blk_ro GS.out
  have k0 := G1.out.cell 0
  have k1 := G1.out.cell 1
  have k2 := G1.out.cell 2
  simp at k0 k1 k2
  simp only at q1 q5 r1 r5
  by_cases hk0 : k = 0
  · subst hk0
    obtain rfl : Sver = R.ver + 1 := by rcases HVER.out with h | ⟨h, h', h'', _⟩ <;> first | exact h | exact absurd rfl h | exact absurd rfl h'
    have hk2 : (0 : Int) ≠ 2 := by decide
    go_upto_region 12 with fail
    clear q0 q1 q2 q3 q4 q5 qz r0 r1 r2 r3 r4 r5 rz k0 k1 k2
    obtain ⟨q0, q1, q2, q3, q4, q5, qz⟩ := blk_ro G0.out
    obtain ⟨r0, r1, r2, r3, r4, r5, rz⟩ := blk_ro GS.out
    have k0 := G1.out.cell 0
    have k1 := G1.out.cell 1
    have k2 := G1.out.cell 2
    simp at k0 k1 k2
    simp only at q1 q5 r1 r5
    obtain ⟨b, off, x, hA, hb, hx, e0, e1, e2, e3, e4⟩ := H.out.cs.sr.at5 HLT.out
    obtain ⟨b', off', y, hA', hb', hy, f0, f1, f2, f3, f4⟩ := GR.out.cs.sr.at5 HLM.out
    obtain rfl : x = c := Option.some.inj (hx.symm.trans HI.out)
    obtain rfl : y = d := Option.some.inj (hy.symm.trans HM.out)
    simp only at hA hA'
    subst hA hA'
    replace e0 := (GE.out.cell (p := ⟨b, off + i * 5, none⟩) hb).trans e0
    replace e2 := (GE.out.cell (p := ⟨b, off + i * 5 + 2, none⟩) hb).trans e2
    rw [HSH.out] at f2
    clear e1 e3 e4 f0 f1 f3 f4 hx hy
    rw [if_neg (fun h => hk2 h.1)] at f2
    have P5 : ∀ q : BW w6, q.val.cell? ⟨w.heap.size, 5, none⟩ = some (.slice (some ⟨b, off, none⟩) cn cc) := fun q => q.cell q5
    have O5 : ∀ q : BW w6, q.val.cell? ⟨g1, 5, none⟩ = some (.slice (some ⟨b', off', none⟩) cn1 cc1) := fun q => q.cell r5
    have Y0 : ∀ q : BW w6, q.val.cell? ⟨w.heap.size + 1, 0, none⟩ = some (.int .i64 0) := fun q => q.cell k0
    have Y1 : ∀ q : BW w6, q.val.cell? ⟨w.heap.size + 1, 1, none⟩ = some (.string key) := fun q => q.cell k1
    have Y2 : ∀ q : BW w6, q.val.cell? ⟨w.heap.size + 1, 2, none⟩ = some (.int .i64 z) := fun q => q.cell k2
    have X0 : ∀ q : BW w6, q.val.cell? ⟨b, off + i * 5, none⟩ = some (.string x.lo) := fun q => q.cell e0
    refine wp_region_bw (by kernel_rfl) (by kernel_rfl) ?_
    repeat (go_big_quiet_step (fail))
    refine wpQuiet_nil ?_
    rintro _ ⟨kw, rfl⟩
    have VE := Lib.hid (GE.out.step' kw.below)
    replace e2 := kw.cell e2
    replace f2 := kw.cell f2
    replace q5 := kw.cell q5
    replace r5 := kw.cell r5
    replace k2 := kw.cell k2
    clear P5 O5 Y0 Y1 Y2 X0 e0 q0 q1 q2 q3 q4 qz r0 r1 r2 r3 r4 rz k0 k1
    generalize kw.val = v8 at *
    clear kw
    go_upto_region 14 with fail
    have E2 : ∀ q : BW v8, q.val.cell? ⟨b, off + i * 5 + 2, none⟩ = some (.int .i64 x.sh) := fun q => q.cell e2
    have F2 : ∀ q : BW v8, q.val.cell? ⟨b', off' + m * 5 + 2, none⟩ = some (.int .i64 x.sh) := fun q => q.cell f2
    have P5 : ∀ q : BW v8, q.val.cell? ⟨w.heap.size, 5, none⟩ = some (.slice (some ⟨b, off, none⟩) cn cc) := fun q => q.cell q5
    have O5 : ∀ q : BW v8, q.val.cell? ⟨g1, 5, none⟩ = some (.slice (some ⟨b', off', none⟩) cn1 cc1) := fun q => q.cell r5
    have Y2 : ∀ q : BW v8, q.val.cell? ⟨w.heap.size + 1, 2, none⟩ = some (.int .i64 z) := fun q => q.cell k2
    have eqb : (x.sh == x.sh) = true := by simp
    have K4 : Hid (∀ q : BW v8, Calls Tryd.prog 8 #[] q.val fun e w'' => e = .returned (.bool true) ∧ ∃ q : BW v8, w'' = q.val) := fun q =>
      Calls.bw (awake49_any q.val ((HT.out.step VE.out).step q.below))
    clear e2 f2 q5 r5 k2
    refine wp_region_bw (by kernel_rfl) (by kernel_rfl) ?_
    repeat (go_big_quiet_step ((with_reducible exact K4.out _)))
    refine wpQuiet_nil ?_
    rintro _ ⟨kw, rfl⟩
    have ZE := Lib.hid (VE.out.step' kw.below)
    clear E2 F2 P5 O5 Y2 K4
    generalize kw.val = v9 at *
    go_wp2_with fail
    go_ret
    exact ⟨rfl, ZE.out⟩
  by_cases hk1 : k = 1
  · subst hk1
    obtain rfl : Sver = R.ver + 1 := by rcases HVER.out with h | ⟨h, h', h'', _⟩ <;> first | exact h | exact absurd rfl h | exact absurd rfl h'
    have hk2 : (1 : Int) ≠ 2 := by decide
    go_upto_region 12 with fail
    clear q0 q1 q2 q3 q4 q5 qz r0 r1 r2 r3 r4 r5 rz k0 k1 k2
    obtain ⟨q0, q1, q2, q3, q4, q5, qz⟩ := blk_ro G0.out
    obtain ⟨r0, r1, r2, r3, r4, r5, rz⟩ := blk_ro GS.out
    have k0 := G1.out.cell 0
    have k1 := G1.out.cell 1
    have k2 := G1.out.cell 2
    simp at k0 k1 k2
    simp only at q1 q5 r1 r5
    obtain ⟨b, off, x, hA, hb, hx, e0, e1, e2, e3, e4⟩ := H.out.cs.sr.at5 HLT.out
    obtain ⟨b', off', y, hA', hb', hy, f0, f1, f2, f3, f4⟩ := GR.out.cs.sr.at5 HLM.out
    obtain rfl : x = c := Option.some.inj (hx.symm.trans HI.out)
    obtain rfl : y = d := Option.some.inj (hy.symm.trans HM.out)
    simp only at hA hA'
    subst hA hA'
    replace e0 := (GE.out.cell (p := ⟨b, off + i * 5, none⟩) hb).trans e0
    replace e2 := (GE.out.cell (p := ⟨b, off + i * 5 + 2, none⟩) hb).trans e2
    rw [HSH.out] at f2
    clear e1 e3 e4 f0 f1 f3 f4 hx hy
    rw [if_neg (fun h => hk2 h.1)] at f2
    have P5 : ∀ q : BW w6, q.val.cell? ⟨w.heap.size, 5, none⟩ = some (.slice (some ⟨b, off, none⟩) cn cc) := fun q => q.cell q5
    have O5 : ∀ q : BW w6, q.val.cell? ⟨g1, 5, none⟩ = some (.slice (some ⟨b', off', none⟩) cn1 cc1) := fun q => q.cell r5
    have Y0 : ∀ q : BW w6, q.val.cell? ⟨w.heap.size + 1, 0, none⟩ = some (.int .i64 1) := fun q => q.cell k0
    have Y1 : ∀ q : BW w6, q.val.cell? ⟨w.heap.size + 1, 1, none⟩ = some (.string key) := fun q => q.cell k1
    have Y2 : ∀ q : BW w6, q.val.cell? ⟨w.heap.size + 1, 2, none⟩ = some (.int .i64 z) := fun q => q.cell k2
    have X0 : ∀ q : BW w6, q.val.cell? ⟨b, off + i * 5, none⟩ = some (.string x.lo) := fun q => q.cell e0
    refine wp_region_bw (by kernel_rfl) (by kernel_rfl) ?_
    repeat (go_big_quiet_step (fail))
    refine wpQuiet_nil ?_
    rintro _ ⟨kw, rfl⟩
    have VE := Lib.hid (GE.out.step' kw.below)
    replace e2 := kw.cell e2
    replace f2 := kw.cell f2
    replace q5 := kw.cell q5
    replace r5 := kw.cell r5
    replace k2 := kw.cell k2
    clear P5 O5 Y0 Y1 Y2 X0 e0 q0 q1 q2 q3 q4 qz r0 r1 r2 r3 r4 rz k0 k1
    generalize kw.val = v8 at *
    clear kw
    go_upto_region 14 with fail
    have E2 : ∀ q : BW v8, q.val.cell? ⟨b, off + i * 5 + 2, none⟩ = some (.int .i64 x.sh) := fun q => q.cell e2
    have F2 : ∀ q : BW v8, q.val.cell? ⟨b', off' + m * 5 + 2, none⟩ = some (.int .i64 x.sh) := fun q => q.cell f2
    have P5 : ∀ q : BW v8, q.val.cell? ⟨w.heap.size, 5, none⟩ = some (.slice (some ⟨b, off, none⟩) cn cc) := fun q => q.cell q5
    have O5 : ∀ q : BW v8, q.val.cell? ⟨g1, 5, none⟩ = some (.slice (some ⟨b', off', none⟩) cn1 cc1) := fun q => q.cell r5
    have Y2 : ∀ q : BW v8, q.val.cell? ⟨w.heap.size + 1, 2, none⟩ = some (.int .i64 z) := fun q => q.cell k2
    have eqb : (x.sh == x.sh) = true := by simp
    have K4 : Hid (∀ q : BW v8, Calls Tryd.prog 8 #[] q.val fun e w'' => e = .returned (.bool true) ∧ ∃ q : BW v8, w'' = q.val) := fun q =>
      Calls.bw (awake49_any q.val ((HT.out.step VE.out).step q.below))
    clear e2 f2 q5 r5 k2
    refine wp_region_bw (by kernel_rfl) (by kernel_rfl) ?_
    repeat (go_big_quiet_step ((with_reducible exact K4.out _)))
    refine wpQuiet_nil ?_
    rintro _ ⟨kw, rfl⟩
    have ZE := Lib.hid (VE.out.step' kw.below)
    clear E2 F2 P5 O5 Y2 K4
    generalize kw.val = v9 at *
    go_wp2_with fail
    go_ret
    exact ⟨rfl, ZE.out⟩
  by_cases hk2 : k = 2
  · subst hk2
    obtain rfl : Sver = R.ver + 1 := by rcases HVER.out with h | ⟨_, _, h, _⟩ <;> first | exact h | exact absurd rfl h
    by_cases hke : c.lo.toList = key.toList
    · go_upto_region 12 with fail
      clear q0 q1 q2 q3 q4 q5 qz r0 r1 r2 r3 r4 r5 rz k0 k1 k2
      obtain ⟨q0, q1, q2, q3, q4, q5, qz⟩ := blk_ro G0.out
      obtain ⟨r0, r1, r2, r3, r4, r5, rz⟩ := blk_ro GS.out
      have k0 := G1.out.cell 0
      have k1 := G1.out.cell 1
      have k2 := G1.out.cell 2
      simp at k0 k1 k2
      simp only at q1 q5 r1 r5
      obtain ⟨b, off, x, hA, hb, hx, e0, e1, e2, e3, e4⟩ := H.out.cs.sr.at5 HLT.out
      obtain ⟨b', off', y, hA', hb', hy, f0, f1, f2, f3, f4⟩ := GR.out.cs.sr.at5 HLM.out
      obtain rfl : x = c := Option.some.inj (hx.symm.trans HI.out)
      obtain rfl : y = d := Option.some.inj (hy.symm.trans HM.out)
      simp only at hA hA'
      subst hA hA'
      replace e0 := (GE.out.cell (p := ⟨b, off + i * 5, none⟩) hb).trans e0
      replace e2 := (GE.out.cell (p := ⟨b, off + i * 5 + 2, none⟩) hb).trans e2
      rw [HSH.out] at f2
      clear e1 e3 e4 f0 f1 f3 f4 hx hy
      rw [if_pos ⟨rfl, hke⟩] at f2
      have P5 : ∀ q : BW w6, q.val.cell? ⟨w.heap.size, 5, none⟩ = some (.slice (some ⟨b, off, none⟩) cn cc) := fun q => q.cell q5
      have O5 : ∀ q : BW w6, q.val.cell? ⟨g1, 5, none⟩ = some (.slice (some ⟨b', off', none⟩) cn1 cc1) := fun q => q.cell r5
      have Y0 : ∀ q : BW w6, q.val.cell? ⟨w.heap.size + 1, 0, none⟩ = some (.int .i64 2) := fun q => q.cell k0
      have Y1 : ∀ q : BW w6, q.val.cell? ⟨w.heap.size + 1, 1, none⟩ = some (.string key) := fun q => q.cell k1
      have Y2 : ∀ q : BW w6, q.val.cell? ⟨w.heap.size + 1, 2, none⟩ = some (.int .i64 z) := fun q => q.cell k2
      have X0 : ∀ q : BW w6, q.val.cell? ⟨b, off + i * 5, none⟩ = some (.string x.lo) := fun q => q.cell e0
      have hkeb : (x.lo.toList == key.toList) = true := by simpa using hke
      refine wp_region_bw (by kernel_rfl) (by kernel_rfl) ?_
      repeat (go_big_quiet_step (fail))
      refine wpQuiet_nil ?_
      rintro _ ⟨kw, rfl⟩
      have VE := Lib.hid (GE.out.step' kw.below)
      replace e2 := kw.cell e2
      replace f2 := kw.cell f2
      replace q5 := kw.cell q5
      replace r5 := kw.cell r5
      replace k2 := kw.cell k2
      clear P5 O5 Y0 Y1 Y2 X0 e0 q0 q1 q2 q3 q4 qz r0 r1 r2 r3 r4 rz k0 k1
      generalize kw.val = v8 at *
      clear kw
      go_upto_region 13 with fail
      have E2 : ∀ q : BW v8, q.val.cell? ⟨b, off + i * 5 + 2, none⟩ = some (.int .i64 x.sh) := fun q => q.cell e2
      have F2 : ∀ q : BW v8, q.val.cell? ⟨b', off' + m * 5 + 2, none⟩ = some (.int .i64 z) := fun q => q.cell f2
      have P5 : ∀ q : BW v8, q.val.cell? ⟨w.heap.size, 5, none⟩ = some (.slice (some ⟨b, off, none⟩) cn cc) := fun q => q.cell q5
      have O5 : ∀ q : BW v8, q.val.cell? ⟨g1, 5, none⟩ = some (.slice (some ⟨b', off', none⟩) cn1 cc1) := fun q => q.cell r5
      have Y2 : ∀ q : BW v8, q.val.cell? ⟨w.heap.size + 1, 2, none⟩ = some (.int .i64 z) := fun q => q.cell k2
      have eqb : (z == z) = true := by simp
      have K4 : Hid (∀ q : BW v8, Calls Tryd.prog 8 #[] q.val fun e w'' => e = .returned (.bool true) ∧ ∃ q : BW v8, w'' = q.val) := fun q =>
        Calls.bw (awake49_any q.val ((HT.out.step VE.out).step q.below))
      clear e2 f2 q5 r5 k2
      refine wp_region_bw (by kernel_rfl) (by kernel_rfl) ?_
      repeat (go_big_quiet_step ((with_reducible exact K4.out _)))
      refine wpQuiet_nil ?_
      rintro _ ⟨kw, rfl⟩
      have ZE := Lib.hid (VE.out.step' kw.below)
      clear E2 F2 P5 O5 Y2 K4
      generalize kw.val = v9 at *
      go_wp2_with fail
      go_ret
      exact ⟨rfl, ZE.out⟩
    · go_upto_region 12 with fail
      clear q0 q1 q2 q3 q4 q5 qz r0 r1 r2 r3 r4 r5 rz k0 k1 k2
      obtain ⟨q0, q1, q2, q3, q4, q5, qz⟩ := blk_ro G0.out
      obtain ⟨r0, r1, r2, r3, r4, r5, rz⟩ := blk_ro GS.out
      have k0 := G1.out.cell 0
      have k1 := G1.out.cell 1
      have k2 := G1.out.cell 2
      simp at k0 k1 k2
      simp only at q1 q5 r1 r5
      obtain ⟨b, off, x, hA, hb, hx, e0, e1, e2, e3, e4⟩ := H.out.cs.sr.at5 HLT.out
      obtain ⟨b', off', y, hA', hb', hy, f0, f1, f2, f3, f4⟩ := GR.out.cs.sr.at5 HLM.out
      obtain rfl : x = c := Option.some.inj (hx.symm.trans HI.out)
      obtain rfl : y = d := Option.some.inj (hy.symm.trans HM.out)
      simp only at hA hA'
      subst hA hA'
      replace e0 := (GE.out.cell (p := ⟨b, off + i * 5, none⟩) hb).trans e0
      replace e2 := (GE.out.cell (p := ⟨b, off + i * 5 + 2, none⟩) hb).trans e2
      rw [HSH.out] at f2
      clear e1 e3 e4 f0 f1 f3 f4 hx hy
      rw [if_neg (fun h => hke h.2)] at f2
      have P5 : ∀ q : BW w6, q.val.cell? ⟨w.heap.size, 5, none⟩ = some (.slice (some ⟨b, off, none⟩) cn cc) := fun q => q.cell q5
      have O5 : ∀ q : BW w6, q.val.cell? ⟨g1, 5, none⟩ = some (.slice (some ⟨b', off', none⟩) cn1 cc1) := fun q => q.cell r5
      have Y0 : ∀ q : BW w6, q.val.cell? ⟨w.heap.size + 1, 0, none⟩ = some (.int .i64 2) := fun q => q.cell k0
      have Y1 : ∀ q : BW w6, q.val.cell? ⟨w.heap.size + 1, 1, none⟩ = some (.string key) := fun q => q.cell k1
      have Y2 : ∀ q : BW w6, q.val.cell? ⟨w.heap.size + 1, 2, none⟩ = some (.int .i64 z) := fun q => q.cell k2
      have X0 : ∀ q : BW w6, q.val.cell? ⟨b, off + i * 5, none⟩ = some (.string x.lo) := fun q => q.cell e0
      have hkeb : (x.lo.toList == key.toList) = false := by simpa using hke
      refine wp_region_bw (by kernel_rfl) (by kernel_rfl) ?_
      repeat (go_big_quiet_step (fail))
      refine wpQuiet_nil ?_
      rintro _ ⟨kw, rfl⟩
      have VE := Lib.hid (GE.out.step' kw.below)
      replace e2 := kw.cell e2
      replace f2 := kw.cell f2
      replace q5 := kw.cell q5
      replace r5 := kw.cell r5
      replace k2 := kw.cell k2
      clear P5 O5 Y0 Y1 Y2 X0 e0 q0 q1 q2 q3 q4 qz r0 r1 r2 r3 r4 rz k0 k1
      generalize kw.val = v8 at *
      clear kw
      go_upto_region 14 with fail
      have E2 : ∀ q : BW v8, q.val.cell? ⟨b, off + i * 5 + 2, none⟩ = some (.int .i64 x.sh) := fun q => q.cell e2
      have F2 : ∀ q : BW v8, q.val.cell? ⟨b', off' + m * 5 + 2, none⟩ = some (.int .i64 x.sh) := fun q => q.cell f2
      have P5 : ∀ q : BW v8, q.val.cell? ⟨w.heap.size, 5, none⟩ = some (.slice (some ⟨b, off, none⟩) cn cc) := fun q => q.cell q5
      have O5 : ∀ q : BW v8, q.val.cell? ⟨g1, 5, none⟩ = some (.slice (some ⟨b', off', none⟩) cn1 cc1) := fun q => q.cell r5
      have Y2 : ∀ q : BW v8, q.val.cell? ⟨w.heap.size + 1, 2, none⟩ = some (.int .i64 z) := fun q => q.cell k2
      have eqb : (x.sh == x.sh) = true := by simp
      have K4 : Hid (∀ q : BW v8, Calls Tryd.prog 8 #[] q.val fun e w'' => e = .returned (.bool true) ∧ ∃ q : BW v8, w'' = q.val) := fun q =>
        Calls.bw (awake49_any q.val ((HT.out.step VE.out).step q.below))
      clear e2 f2 q5 r5 k2
      refine wp_region_bw (by kernel_rfl) (by kernel_rfl) ?_
      repeat (go_big_quiet_step ((with_reducible exact K4.out _)))
      refine wpQuiet_nil ?_
      rintro _ ⟨kw, rfl⟩
      have ZE := Lib.hid (VE.out.step' kw.below)
      clear E2 F2 P5 O5 Y2 K4
      generalize kw.val = v9 at *
      go_wp2_with fail
      go_ret
      exact ⟨rfl, ZE.out⟩
  have kb0 : (k != 0) = true := by simpa using hk0
  have kb1 : (k != 1) = true := by simpa using hk1
  have kb2' : (k != 2) = true := by simpa using hk2
  have HSM := Lib.hid (same49_any R ⟨R.sp, Sks, Sha, R.ep, Sver, Scs⟩ ⟨KA, kn, kc, CA, cn, cc⟩ ⟨KA1, kn1, kc1, CA1, cn1, cc1⟩ w6 (H.out.step GE.out) GR.out)
  have hsm : sameRo R ⟨R.sp, Sks, Sha, R.ep, Sver, Scs⟩ = true ∨ Sver = R.ver + 1 := by
    rcases HVER.out with h | ⟨_, _, _, h⟩
    · exact .inr h
    · exact .inl (by rw [h]; exact sameRo_refl R)
  go_wp2_with fail
  clear q0 q1 q2 q3 q4 q5 qz r0 r1 r2 r3 r4 r5 rz k0 k1 k2
  refine HSM.out.mono ?_
  rintro e w7 ⟨rfl, hb⟩
  replace G0 := Lib.hid (G0.out.step hb)
  replace G1 := Lib.hid (G1.out.step hb)
  replace GE := Lib.hid (GE.out.step' hb)
  replace GR := Lib.hid (GR.out.step hb)
  replace GS := Lib.hid (GS.out.step hb)
  clear hb HSM
  generalize sameRo R ⟨R.sp, Sks, Sha, R.ep, Sver, Scs⟩ = sm at *
  obtain ⟨q0, q1, q2, q3, q4, q5, qz⟩ := blk_ro G0.out
  obtain ⟨r0, r1, r2, r3, r4, r5, rz⟩ := blk_ro GS.out
  have k0 := G1.out.cell 0
  have k1 := G1.out.cell 1
  have k2 := G1.out.cell 2
  simp at k0 k1 k2
  simp only at q1 q5 r1 r5
  cases sm
  · obtain rfl : Sver = R.ver + 1 := by simpa using hsm
    go_upto_region 12 with fail
    clear q0 q1 q2 q3 q4 q5 qz r0 r1 r2 r3 r4 r5 rz k0 k1 k2
    obtain ⟨q0, q1, q2, q3, q4, q5, qz⟩ := blk_ro G0.out
    obtain ⟨r0, r1, r2, r3, r4, r5, rz⟩ := blk_ro GS.out
    have k0 := G1.out.cell 0
    have k1 := G1.out.cell 1
    have k2 := G1.out.cell 2
    simp at k0 k1 k2
    simp only at q1 q5 r1 r5
    obtain ⟨b, off, x, hA, hb, hx, e0, e1, e2, e3, e4⟩ := H.out.cs.sr.at5 HLT.out
    obtain ⟨b', off', y, hA', hb', hy, f0, f1, f2, f3, f4⟩ := GR.out.cs.sr.at5 HLM.out
    obtain rfl : x = c := Option.some.inj (hx.symm.trans HI.out)
    obtain rfl : y = d := Option.some.inj (hy.symm.trans HM.out)
    simp only at hA hA'
    subst hA hA'
    replace e0 := (GE.out.cell (p := ⟨b, off + i * 5, none⟩) hb).trans e0
    replace e2 := (GE.out.cell (p := ⟨b, off + i * 5 + 2, none⟩) hb).trans e2
    rw [HSH.out] at f2
    clear e1 e3 e4 f0 f1 f3 f4 hx hy
    rw [if_neg (fun h => hk2 h.1)] at f2
    have P5 : ∀ q : BW w7, q.val.cell? ⟨w.heap.size, 5, none⟩ = some (.slice (some ⟨b, off, none⟩) cn cc) := fun q => q.cell q5
    have O5 : ∀ q : BW w7, q.val.cell? ⟨g1, 5, none⟩ = some (.slice (some ⟨b', off', none⟩) cn1 cc1) := fun q => q.cell r5
    have Y0 : ∀ q : BW w7, q.val.cell? ⟨w.heap.size + 1, 0, none⟩ = some (.int .i64 k) := fun q => q.cell k0
    have Y1 : ∀ q : BW w7, q.val.cell? ⟨w.heap.size + 1, 1, none⟩ = some (.string key) := fun q => q.cell k1
    have Y2 : ∀ q : BW w7, q.val.cell? ⟨w.heap.size + 1, 2, none⟩ = some (.int .i64 z) := fun q => q.cell k2
    have X0 : ∀ q : BW w7, q.val.cell? ⟨b, off + i * 5, none⟩ = some (.string x.lo) := fun q => q.cell e0
    have kb2 : (k == 2) = false := by simpa using hk2
    refine wp_region_bw (by kernel_rfl) (by kernel_rfl) ?_
    repeat (go_big_quiet_step (fail))
    refine wpQuiet_nil ?_
    rintro _ ⟨kw, rfl⟩
    have VE := Lib.hid (GE.out.step' kw.below)
    replace e2 := kw.cell e2
    replace f2 := kw.cell f2
    replace q5 := kw.cell q5
    replace r5 := kw.cell r5
    replace k2 := kw.cell k2
    clear P5 O5 Y0 Y1 Y2 X0 e0 q0 q1 q2 q3 q4 qz r0 r1 r2 r3 r4 rz k0 k1
    generalize kw.val = v8 at *
    clear kw
    go_upto_region 14 with fail
    have E2 : ∀ q : BW v8, q.val.cell? ⟨b, off + i * 5 + 2, none⟩ = some (.int .i64 x.sh) := fun q => q.cell e2
    have F2 : ∀ q : BW v8, q.val.cell? ⟨b', off' + m * 5 + 2, none⟩ = some (.int .i64 x.sh) := fun q => q.cell f2
    have P5 : ∀ q : BW v8, q.val.cell? ⟨w.heap.size, 5, none⟩ = some (.slice (some ⟨b, off, none⟩) cn cc) := fun q => q.cell q5
    have O5 : ∀ q : BW v8, q.val.cell? ⟨g1, 5, none⟩ = some (.slice (some ⟨b', off', none⟩) cn1 cc1) := fun q => q.cell r5
    have Y2 : ∀ q : BW v8, q.val.cell? ⟨w.heap.size + 1, 2, none⟩ = some (.int .i64 z) := fun q => q.cell k2
    have eqb : (x.sh == x.sh) = true := by simp
    have K4 : Hid (∀ q : BW v8, Calls Tryd.prog 8 #[] q.val fun e w'' => e = .returned (.bool true) ∧ ∃ q : BW v8, w'' = q.val) := fun q =>
      Calls.bw (awake49_any q.val ((HT.out.step VE.out).step q.below))
    clear e2 f2 q5 r5 k2
    refine wp_region_bw (by kernel_rfl) (by kernel_rfl) ?_
    repeat (go_big_quiet_step ((with_reducible exact K4.out _)))
    refine wpQuiet_nil ?_
    rintro _ ⟨kw, rfl⟩
    have ZE := Lib.hid (VE.out.step' kw.below)
    clear E2 F2 P5 O5 Y2 K4
    generalize kw.val = v9 at *
    go_wp2_with fail
    go_ret
    exact ⟨rfl, ZE.out⟩
  · clear hsm
    go_upto_region 12 with fail
    clear q0 q1 q2 q3 q4 q5 qz r0 r1 r2 r3 r4 r5 rz k0 k1 k2
    obtain ⟨q0, q1, q2, q3, q4, q5, qz⟩ := blk_ro G0.out
    obtain ⟨r0, r1, r2, r3, r4, r5, rz⟩ := blk_ro GS.out
    have k0 := G1.out.cell 0
    have k1 := G1.out.cell 1
    have k2 := G1.out.cell 2
    simp at k0 k1 k2
    simp only at q1 q5 r1 r5
    obtain ⟨b, off, x, hA, hb, hx, e0, e1, e2, e3, e4⟩ := H.out.cs.sr.at5 HLT.out
    obtain ⟨b', off', y, hA', hb', hy, f0, f1, f2, f3, f4⟩ := GR.out.cs.sr.at5 HLM.out
    obtain rfl : x = c := Option.some.inj (hx.symm.trans HI.out)
    obtain rfl : y = d := Option.some.inj (hy.symm.trans HM.out)
    simp only at hA hA'
    subst hA hA'
    replace e0 := (GE.out.cell (p := ⟨b, off + i * 5, none⟩) hb).trans e0
    replace e2 := (GE.out.cell (p := ⟨b, off + i * 5 + 2, none⟩) hb).trans e2
    rw [HSH.out] at f2
    clear e1 e3 e4 f0 f1 f3 f4 hx hy
    rw [if_neg (fun h => hk2 h.1)] at f2
    have P5 : ∀ q : BW w7, q.val.cell? ⟨w.heap.size, 5, none⟩ = some (.slice (some ⟨b, off, none⟩) cn cc) := fun q => q.cell q5
    have O5 : ∀ q : BW w7, q.val.cell? ⟨g1, 5, none⟩ = some (.slice (some ⟨b', off', none⟩) cn1 cc1) := fun q => q.cell r5
    have Y0 : ∀ q : BW w7, q.val.cell? ⟨w.heap.size + 1, 0, none⟩ = some (.int .i64 k) := fun q => q.cell k0
    have Y1 : ∀ q : BW w7, q.val.cell? ⟨w.heap.size + 1, 1, none⟩ = some (.string key) := fun q => q.cell k1
    have Y2 : ∀ q : BW w7, q.val.cell? ⟨w.heap.size + 1, 2, none⟩ = some (.int .i64 z) := fun q => q.cell k2
    have X0 : ∀ q : BW w7, q.val.cell? ⟨b, off + i * 5, none⟩ = some (.string x.lo) := fun q => q.cell e0
    have kb2 : (k == 2) = false := by simpa using hk2
    refine wp_region_bw (by kernel_rfl) (by kernel_rfl) ?_
    repeat (go_big_quiet_step (fail))
    refine wpQuiet_nil ?_
    rintro _ ⟨kw, rfl⟩
    have VE := Lib.hid (GE.out.step' kw.below)
    replace e2 := kw.cell e2
    replace f2 := kw.cell f2
    replace q5 := kw.cell q5
    replace r5 := kw.cell r5
    replace k2 := kw.cell k2
    clear P5 O5 Y0 Y1 Y2 X0 e0 q0 q1 q2 q3 q4 qz r0 r1 r2 r3 r4 rz k0 k1
    generalize kw.val = v8 at *
    clear kw
    go_upto_region 14 with fail
    have E2 : ∀ q : BW v8, q.val.cell? ⟨b, off + i * 5 + 2, none⟩ = some (.int .i64 x.sh) := fun q => q.cell e2
    have F2 : ∀ q : BW v8, q.val.cell? ⟨b', off' + m * 5 + 2, none⟩ = some (.int .i64 x.sh) := fun q => q.cell f2
    have P5 : ∀ q : BW v8, q.val.cell? ⟨w.heap.size, 5, none⟩ = some (.slice (some ⟨b, off, none⟩) cn cc) := fun q => q.cell q5
    have O5 : ∀ q : BW v8, q.val.cell? ⟨g1, 5, none⟩ = some (.slice (some ⟨b', off', none⟩) cn1 cc1) := fun q => q.cell r5
    have Y2 : ∀ q : BW v8, q.val.cell? ⟨w.heap.size + 1, 2, none⟩ = some (.int .i64 z) := fun q => q.cell k2
    have eqb : (x.sh == x.sh) = true := by simp
    have K4 : Hid (∀ q : BW v8, Calls Tryd.prog 8 #[] q.val fun e w'' => e = .returned (.bool true) ∧ ∃ q : BW v8, w'' = q.val) := fun q =>
      Calls.bw (awake49_any q.val ((HT.out.step VE.out).step q.below))
    clear e2 f2 q5 r5 k2
    refine wp_region_bw (by kernel_rfl) (by kernel_rfl) ?_
    repeat (go_big_quiet_step ((with_reducible exact K4.out _)))
    refine wpQuiet_nil ?_
    rintro _ ⟨kw, rfl⟩
    have ZE := Lib.hid (VE.out.step' kw.below)
    clear E2 F2 P5 O5 Y2 K4
    generalize kw.val = v9 at *
    go_wp2_with fail
    go_ret
    exact ⟨rfl, ZE.out⟩

end Go.Proofs.YtgcklgkhdokchaaDoor
