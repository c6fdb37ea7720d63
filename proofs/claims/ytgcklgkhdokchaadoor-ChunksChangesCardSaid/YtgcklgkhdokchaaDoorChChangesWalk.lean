/- The walk of ChunksChanges. Printed by gen_chlaws49.py. -/
import Derived.Test.YtgcklgkhdokchaaDoorChAwake
import Derived.Test.YtgcklgkhdokchaaDoorChLawA
import Derived.Test.YtgcklgkhdokchaaDoorChRefValid
import Derived.Test.YtgcklgkhdokchaaDoorChSame
import Derived.Test.YtgcklgkhdokchaaDoorChChg
import Derived.Test.YtgcklgkhdokchaaDoorChRChg
namespace Go.Proofs.YtgcklgkhdokchaaDoor
open Go.RowKit

set_option maxRecDepth 100000 in
set_option maxHeartbeats 1000000 in
theorem chunksChanges_walk (R : Ro) (a : RA) (k : Int) (key : ByteArray) (z : Int) (j : Bool) (w : World) (hT : Tabs w) (h : RR w a R) :
    Calls Tryd.prog 6 #[rval a R, .agg #[.int .i64 k, .string key, .int .i64 z, .bool j]] w fun e w' => e = .returned (.bool true) ∧ Below w.heap.size w w' := by
  obtain ⟨KA, kn, kc, CA, cn, cc⟩ := a
  have HT := Lib.hid hT
  have H := Lib.hid h
  clear hT h
  have B0 : Hid (Blk ((w.alloc (Obj.cells (rarr ⟨KA, kn, kc, CA, cn, cc⟩ R) 30)).alloc (Obj.cells #[.int .i64 k, .string key, .int .i64 z, .bool j] 40)) w.heap.size 30 (rarr ⟨KA, kn, kc, CA, cn, cc⟩ R)) := (Blk.new_at rfl).alloc _
  have B1 : Hid (Blk ((w.alloc (Obj.cells (rarr ⟨KA, kn, kc, CA, cn, cc⟩ R) 30)).alloc (Obj.cells #[.int .i64 k, .string key, .int .i64 z, .bool j] 40)) (w.heap.size + 1) 40 #[.int .i64 k, .string key, .int .i64 z, .bool j]) := Blk.new_at (by simp)
  have BE : Hid (Below w.heap.size w ((w.alloc (Obj.cells (rarr ⟨KA, kn, kc, CA, cn, cc⟩ R) 30)).alloc (Obj.cells #[.int .i64 k, .string key, .int .i64 z, .bool j] 40))) := ((Below.refl _ _).alloc (Nat.le_refl _) _).alloc (by simp) _
  go_enter Tryd.func6, Tryd.ntmps6
  go_upto_region 1 with fail
  change (Code.region 1 _ _).wp _ _ _ ((w.alloc (Obj.cells (rarr ⟨KA, kn, kc, CA, cn, cc⟩ R) 30)).alloc (Obj.cells #[.int .i64 k, .string key, .int .i64 z, .bool j] 40))
  generalize (w.alloc (Obj.cells (rarr ⟨KA, kn, kc, CA, cn, cc⟩ R) 30)).alloc (Obj.cells #[.int .i64 k, .string key, .int .i64 z, .bool j] 40) = wa at *
  obtain ⟨q0, q1, q2, q3, q4, q5, qz⟩ := blk_ro B0.out
  simp only at q1 q5
  have k0 := B1.out.cell 0
  have k1 := B1.out.cell 1
  have k2 := B1.out.cell 2
  have k3 := B1.out.cell 3
  simp at k0 k1 k2 k3
  have hfw := few_any R ⟨KA, kn, kc, CA, cn, cc⟩ wa (H.out.step BE.out)
  cases hF : fewB R
  · rw [hF] at hfw
    have HFW := Lib.hid hfw
    clear hfw
    go_wp2_with fail
    refine HFW.out.mono ?_
    rintro e w1 ⟨rfl, hb⟩
    have CE := Lib.hid (BE.out.step' hb)
    clear hb q0 q1 q2 q3 q4 q5 qz k0 k1 k2 k3
    go_wp2_with fail
    refine (awake49_any w1 (HT.out.step CE.out)).mono ?_
    rintro e wz0 ⟨rfl, hbz⟩
    go_wp2_with fail
    go_ret
    exact ⟨rfl, CE.out.step' hbz⟩
  rw [hF] at hfw
  have HFW := Lib.hid hfw
  clear hfw
  go_wp2_with fail
  clear q0 q1 q2 q3 q4 q5 qz k0 k1 k2 k3
  refine HFW.out.mono ?_
  rintro e w1 ⟨rfl, hb⟩
  have C0 := Lib.hid (B0.out.step hb)
  have C1 := Lib.hid (B1.out.step hb)
  have CE := Lib.hid (BE.out.step' hb)
  clear hb HFW B0 B1 BE
  obtain ⟨q0, q1, q2, q3, q4, q5, qz⟩ := blk_ro C0.out
  simp only at q1 q5
  have k0 := C1.out.cell 0
  have k1 := C1.out.cell 1
  have k2 := C1.out.cell 2
  have k3 := C1.out.cell 3
  simp at k0 k1 k2 k3
  have HVL := Lib.hid (rvalid49_any R ⟨KA, kn, kc, CA, cn, cc⟩ w1 (H.out.step CE.out))
  by_cases hv0 : routE R = 0
  rotate_left
  · have hv1 : (routE R != 0) = true := by simpa using hv0
    go_wp2_with fail
    refine HVL.out.mono ?_
    rintro e w2 ⟨rfl, hb⟩
    have DE := Lib.hid (CE.out.step' hb)
    clear hb HVL q0 q1 q2 q3 q4 q5 qz k0 k1 k2 k3
    go_wp2_with fail
    refine (awake49_any w2 (HT.out.step DE.out)).mono ?_
    rintro e wz1 ⟨rfl, hbz⟩
    go_wp2_with fail
    go_ret
    exact ⟨rfl, DE.out.step' hbz⟩
  have HVR := Lib.hid ((routE_iff R).1 hv0)
  have HP := Lib.hid HVR.out.path
  go_wp2_with fail
  clear q0 q1 q2 q3 q4 q5 qz k0 k1 k2 k3
  refine HVL.out.mono ?_
  rintro e w2 ⟨rfl, hb⟩
  rw [hv0]
  clear hv0
  have D0 := Lib.hid (C0.out.step hb)
  have D1 := Lib.hid (C1.out.step hb)
  have DE := Lib.hid (CE.out.step' hb)
  clear hb HVL C0 C1 CE
  obtain ⟨q0, q1, q2, q3, q4, q5, qz⟩ := blk_ro D0.out
  simp only at q1 q5
  have k0 := D1.out.cell 0
  have k1 := D1.out.cell 1
  have k2 := D1.out.cell 2
  have k3 := D1.out.cell 3
  simp at k0 k1 k2 k3
  go_upto_region 3 with fail
  have h80 : R.cs.length ≤ 80 := by have := HVR.out.ln; omega
  have H80 := Lib.hid h80
  have HCH := Lib.hid (change_any R ⟨KA, kn, kc, CA, cn, cc⟩ k key z j w2 (H.out.step DE.out) HP.out)
  obtain ⟨rr, hrr⟩ : ∃ rr, rr = changeR R k key z j := ⟨_, rfl⟩
  have HRR := Lib.hid hrr
  rw [← hrr] at HCH
  clear hrr h80
  go_wp2_with fail
  clear q0 q1 q2 q3 q4 q5 qz k0 k1 k2 k3
  refine HCH.out.mono ?_
  rintro e w3 ⟨⟨KA1, kn1, kc1, CA1, cn1, cc1⟩, rfl, hr1, hb1⟩
  obtain ⟨S, er⟩ := rr
  simp only at hr1
  have E0 := Lib.hid ((D0.out.step hb1).alloc (Obj.cells (rarr ⟨KA1, kn1, kc1, CA1, cn1, cc1⟩ S) 30))
  have E1 := Lib.hid ((D1.out.step hb1).alloc (Obj.cells (rarr ⟨KA1, kn1, kc1, CA1, cn1, cc1⟩ S) 30))
  have EE := Lib.hid ((DE.out.step' hb1).alloc (DE.out.step' hb1).size (Obj.cells (rarr ⟨KA1, kn1, kc1, CA1, cn1, cc1⟩ S) 30))
  have ER := Lib.hid (hr1.alloc (Obj.cells (rarr ⟨KA1, kn1, kc1, CA1, cn1, cc1⟩ S) 30))
  have ES : Hid (Blk (w3.alloc (Obj.cells (rarr ⟨KA1, kn1, kc1, CA1, cn1, cc1⟩ S) 30)) w3.heap.size 30 (rarr ⟨KA1, kn1, kc1, CA1, cn1, cc1⟩ S)) := Blk.new_at rfl
  clear hb1 hr1 HCH D0 D1 DE
  go_upto_region 4 with fail
  change (Code.region 4 _ _).wp _ _ _ (w3.alloc (Obj.cells (rarr ⟨KA1, kn1, kc1, CA1, cn1, cc1⟩ S) 30))
  generalize w3.alloc (Obj.cells (rarr ⟨KA1, kn1, kc1, CA1, cn1, cc1⟩ S) 30) = w4 at *
  generalize w3.heap.size = g1 at *
  obtain ⟨q0, q1, q2, q3, q4, q5, qz⟩ := blk_ro E0.out
  simp only at q1 q5
  have k0 := E1.out.cell 0
  have k1 := E1.out.cell 1
  have k2 := E1.out.cell 2
  have k3 := E1.out.cell 3
  simp at k0 k1 k2 k3
  have HCH := Lib.hid (rchange_any R ⟨KA, kn, kc, CA, cn, cc⟩ k key z j w4 (H.out.step EE.out) HP.out H80.out)
  rw [← HRR.out] at HCH
  go_wp2_with fail
  clear q0 q1 q2 q3 q4 q5 qz k0 k1 k2 k3
  refine HCH.out.mono ?_
  rintro e w5 ⟨⟨KA2, kn2, kc2, CA2, cn2, cc2⟩, rfl, hr2, hb2⟩
  simp only at hr2
  have F0 := Lib.hid ((E0.out.step hb2).alloc (Obj.cells (rarr ⟨KA2, kn2, kc2, CA2, cn2, cc2⟩ S) 30))
  have FE := Lib.hid ((EE.out.step' hb2).alloc (EE.out.step' hb2).size (Obj.cells (rarr ⟨KA2, kn2, kc2, CA2, cn2, cc2⟩ S) 30))
  have FR := Lib.hid ((ER.out.step hb2).alloc (Obj.cells (rarr ⟨KA2, kn2, kc2, CA2, cn2, cc2⟩ S) 30))
  have FS := Lib.hid ((ES.out.step hb2).alloc (Obj.cells (rarr ⟨KA2, kn2, kc2, CA2, cn2, cc2⟩ S) 30))
  have FR2 := Lib.hid (hr2.alloc (Obj.cells (rarr ⟨KA2, kn2, kc2, CA2, cn2, cc2⟩ S) 30))
  have FS2 : Hid (Blk (w5.alloc (Obj.cells (rarr ⟨KA2, kn2, kc2, CA2, cn2, cc2⟩ S) 30)) w5.heap.size 30 (rarr ⟨KA2, kn2, kc2, CA2, cn2, cc2⟩ S)) := Blk.new_at rfl
  clear hb2 hr2 HCH E0 E1 EE ER ES
  go_upto_region 5 with fail
  change (Code.region 5 _ _).wp _ _ _ (w5.alloc (Obj.cells (rarr ⟨KA2, kn2, kc2, CA2, cn2, cc2⟩ S) 30))
  generalize w5.alloc (Obj.cells (rarr ⟨KA2, kn2, kc2, CA2, cn2, cc2⟩ S) 30) = w6 at *
  generalize w5.heap.size = g2 at *
  obtain ⟨q0, q1, q2, q3, q4, q5, qz⟩ := blk_ro FS.out
  obtain ⟨r0, r1, r2, r3, r4, r5, rz⟩ := blk_ro FS2.out
  simp only at q1 q5 r1 r5
  have hSM := same49_any S S ⟨KA1, kn1, kc1, CA1, cn1, cc1⟩ ⟨KA2, kn2, kc2, CA2, cn2, cc2⟩ w6 FR.out FR2.out
  rw [sameRo_refl] at hSM
  have HSM := Lib.hid hSM
  have heq : (er == er) = true := by simp
  clear hSM
  go_wp2_with fail
  clear q0 q1 q2 q3 q4 q5 qz r0 r1 r2 r3 r4 r5 rz
  refine HSM.out.mono ?_
  rintro e w7 ⟨rfl, hb3⟩
  have GE := Lib.hid (FE.out.step' hb3)
  clear hb3
  go_wp2_with fail
  refine (awake49_any w7 (HT.out.step GE.out)).mono ?_
  rintro e wz3 ⟨rfl, hbz⟩
  go_wp2_with fail
  go_ret
  exact ⟨rfl, GE.out.step' hbz⟩

end Go.Proofs.YtgcklgkhdokchaaDoor
