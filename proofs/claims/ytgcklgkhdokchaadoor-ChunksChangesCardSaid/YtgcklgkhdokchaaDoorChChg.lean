/- The contracts of change. Printed by gen_chchg.py. -/
import Derived.Test.YtgcklgkhdokchaaDoorChLawA
import Derived.Test.YtgcklgkhdokchaaDoorChBaseC
namespace Go.Proofs.YtgcklgkhdokchaaDoor
open Go.RowKit

set_option maxRecDepth 100000 in
set_option maxHeartbeats 1000000 in
theorem change_any (R : Ro) (a : RA) (k : Int) (key : ByteArray) (z : Int) (j : Bool) (w : World) (h : RR w a R) (hp : ∀ q ∈ R.ks, pathB q.p = true) :
    Calls Tryd.prog 21 #[rval a R, .agg #[.int .i64 k, .string key, .int .i64 z, .bool j]] w (RouOk (changeR R k key z j) w) := by
  obtain ⟨KA, kn, kc, CA, cn, cc⟩ := a
  have H := Lib.hid h
  have HP := Lib.hid hp
  clear h hp
  have B0 : Hid (Blk (((w.alloc (Obj.cells (rarr ⟨KA, kn, kc, CA, cn, cc⟩ R) 30)).alloc (Obj.cells #[.int .i64 k, .string key, .int .i64 z, .bool j] 40)).alloc (Obj.cells (rarr RA.zero Ro.zero) 30)) w.heap.size 30 (rarr ⟨KA, kn, kc, CA, cn, cc⟩ R)) := ((Blk.new_at rfl).alloc _).alloc _
  have B1 : Hid (Blk (((w.alloc (Obj.cells (rarr ⟨KA, kn, kc, CA, cn, cc⟩ R) 30)).alloc (Obj.cells #[.int .i64 k, .string key, .int .i64 z, .bool j] 40)).alloc (Obj.cells (rarr RA.zero Ro.zero) 30)) (w.heap.size + 1) 40 #[.int .i64 k, .string key, .int .i64 z, .bool j]) := (Blk.new_at (by simp)).alloc _
  have B2 : Hid (Blk (((w.alloc (Obj.cells (rarr ⟨KA, kn, kc, CA, cn, cc⟩ R) 30)).alloc (Obj.cells #[.int .i64 k, .string key, .int .i64 z, .bool j] 40)).alloc (Obj.cells (rarr RA.zero Ro.zero) 30)) (w.heap.size + 2) 30 (rarr RA.zero Ro.zero)) := Blk.new_at (by simp)
  have BE : Hid (Below w.heap.size w (((w.alloc (Obj.cells (rarr ⟨KA, kn, kc, CA, cn, cc⟩ R) 30)).alloc (Obj.cells #[.int .i64 k, .string key, .int .i64 z, .bool j] 40)).alloc (Obj.cells (rarr RA.zero Ro.zero) 30))) := (((Below.refl _ _).alloc (Nat.le_refl _) _).alloc (by simp) _).alloc (by simp; omega) _
  go_enter Tryd.func21, Tryd.ntmps21
  go_upto_region 1 with fail
  change (Code.region 1 _ _).wp _ _ _ (((w.alloc (Obj.cells (rarr ⟨KA, kn, kc, CA, cn, cc⟩ R) 30)).alloc (Obj.cells #[.int .i64 k, .string key, .int .i64 z, .bool j] 40)).alloc (Obj.cells (rarr RA.zero Ro.zero) 30))
  generalize ((w.alloc (Obj.cells (rarr ⟨KA, kn, kc, CA, cn, cc⟩ R) 30)).alloc (Obj.cells #[.int .i64 k, .string key, .int .i64 z, .bool j] 40)).alloc (Obj.cells (rarr RA.zero Ro.zero) 30) = wa at *
  obtain ⟨q0, q1, q2, q3, q4, q5, qz⟩ := blk_ro B0.out
  simp only at q1 q5
  have k0 := B1.out.cell 0
  have k1 := B1.out.cell 1
  have k2 := B1.out.cell 2
  have k3 := B1.out.cell 3
  simp at k0 k1 k2 k3
  clear B0 B1
  by_cases h0 : k = 0
  · have HV : Hid (changeR R k key z j = splitR R key) := by unfold Hid changeR; rw [if_pos h0]
    have HQ := Lib.hid (path_of (splitR_ks R key) HP.out)
    have HC := Lib.hid (split_any R ⟨KA, kn, kc, CA, cn, cc⟩ key wa (H.out.step BE.out))
    have h0b : (k == 0) = true := by simpa using h0
    go_wp2_with fail
    clear q0 q1 q2 q3 q4 q5 qz k0 k1 k2 k3
    refine HC.out.mono ?_
    rintro e w1 ⟨a1, rfl, hrr, hb1⟩
    obtain ⟨KA', kn', kc', CA', cn', cc'⟩ := a1
    have C2 := Lib.hid (B2.out.step hb1)
    have CE := Lib.hid (BE.out.step' hb1)
    have hN2 := B2.out.lt
    obtain ⟨r0, r1, r2, r3, r4, r5, rz⟩ := blk_ro C2.out
    generalize splitR R key = rr at *
    obtain ⟨S, err⟩ := rr
    have E0 := Lib.hid (C2.out.putR (a := ⟨KA', kn', kc', CA', cn', cc'⟩) (R := S))
    have E2 : Hid (Below w.heap.size w (setR w1 (w.heap.size + 2) ⟨KA', kn', kc', CA', cn', cc'⟩ S)) := below_setR CE.out (by omega) _ _
    have E1 : Hid (RR (setR w1 (w.heap.size + 2) ⟨KA', kn', kc', CA', cn', cc'⟩ S) ⟨KA', kn', kc', CA', cn', cc'⟩ S) := hrr.far HQ.out C2.out _ _
    clear hrr hb1 C2 CE
    go_wp2_with fail
    clear r0 r1 r2 r3 r4 r5 rz
    refine bodyPost_ret (results_ro_err rfl _ (w.heap.size + 2) rfl _ rfl _ ⟨KA', kn', kc', CA', cn', cc'⟩ S E0.out) rfl ?_
    exact RouOk.eq HV.out ⟨_, rfl, E1.out, E2.out⟩
  by_cases h1 : k = 1
  · have HV : Hid (changeR R k key z j = joinR R key) := by unfold Hid changeR; rw [if_neg h0, if_pos h1]
    have HQ := Lib.hid (path_of (joinR_ks R key) HP.out)
    have HC := Lib.hid (join_any R ⟨KA, kn, kc, CA, cn, cc⟩ key wa (H.out.step BE.out))
    have h1b : (k == 1) = true := by simpa using h1
    have h0b : (k == 0) = false := by simpa using h0
    go_wp2_with fail
    clear q0 q1 q2 q3 q4 q5 qz k0 k1 k2 k3
    refine HC.out.mono ?_
    rintro e w1 ⟨a1, rfl, hrr, hb1⟩
    obtain ⟨KA', kn', kc', CA', cn', cc'⟩ := a1
    have C2 := Lib.hid (B2.out.step hb1)
    have CE := Lib.hid (BE.out.step' hb1)
    have hN2 := B2.out.lt
    obtain ⟨r0, r1, r2, r3, r4, r5, rz⟩ := blk_ro C2.out
    generalize joinR R key = rr at *
    obtain ⟨S, err⟩ := rr
    have E0 := Lib.hid (C2.out.putR (a := ⟨KA', kn', kc', CA', cn', cc'⟩) (R := S))
    have E2 : Hid (Below w.heap.size w (setR w1 (w.heap.size + 2) ⟨KA', kn', kc', CA', cn', cc'⟩ S)) := below_setR CE.out (by omega) _ _
    have E1 : Hid (RR (setR w1 (w.heap.size + 2) ⟨KA', kn', kc', CA', cn', cc'⟩ S) ⟨KA', kn', kc', CA', cn', cc'⟩ S) := hrr.far HQ.out C2.out _ _
    clear hrr hb1 C2 CE
    go_wp2_with fail
    clear r0 r1 r2 r3 r4 r5 rz
    refine bodyPost_ret (results_ro_err rfl _ (w.heap.size + 2) rfl _ rfl _ ⟨KA', kn', kc', CA', cn', cc'⟩ S E0.out) rfl ?_
    exact RouOk.eq HV.out ⟨_, rfl, E1.out, E2.out⟩
  by_cases h2 : k = 2
  · have HV : Hid (changeR R k key z j = giveR R key z) := by unfold Hid changeR; rw [if_neg h0, if_neg h1, if_pos h2]
    have HQ := Lib.hid (path_of (giveR_ks R key z) HP.out)
    have HC := Lib.hid (give_any R ⟨KA, kn, kc, CA, cn, cc⟩ key z wa (H.out.step BE.out))
    have h2b : (k == 2) = true := by simpa using h2
    have h0b : (k == 0) = false := by simpa using h0
    have h1b : (k == 1) = false := by simpa using h1
    go_wp2_with fail
    clear q0 q1 q2 q3 q4 q5 qz k0 k1 k2 k3
    refine HC.out.mono ?_
    rintro e w1 ⟨a1, rfl, hrr, hb1⟩
    obtain ⟨KA', kn', kc', CA', cn', cc'⟩ := a1
    have C2 := Lib.hid (B2.out.step hb1)
    have CE := Lib.hid (BE.out.step' hb1)
    have hN2 := B2.out.lt
    obtain ⟨r0, r1, r2, r3, r4, r5, rz⟩ := blk_ro C2.out
    generalize giveR R key z = rr at *
    obtain ⟨S, err⟩ := rr
    have E0 := Lib.hid (C2.out.putR (a := ⟨KA', kn', kc', CA', cn', cc'⟩) (R := S))
    have E2 : Hid (Below w.heap.size w (setR w1 (w.heap.size + 2) ⟨KA', kn', kc', CA', cn', cc'⟩ S)) := below_setR CE.out (by omega) _ _
    have E1 : Hid (RR (setR w1 (w.heap.size + 2) ⟨KA', kn', kc', CA', cn', cc'⟩ S) ⟨KA', kn', kc', CA', cn', cc'⟩ S) := hrr.far HQ.out C2.out _ _
    clear hrr hb1 C2 CE
    go_wp2_with fail
    clear r0 r1 r2 r3 r4 r5 rz
    refine bodyPost_ret (results_ro_err rfl _ (w.heap.size + 2) rfl _ rfl _ ⟨KA', kn', kc', CA', cn', cc'⟩ S E0.out) rfl ?_
    exact RouOk.eq HV.out ⟨_, rfl, E1.out, E2.out⟩
  have HV : Hid (changeR R k key z j = markR R key j) := by unfold Hid changeR; rw [if_neg h0, if_neg h1, if_neg h2]
  have HQ := Lib.hid (path_of (markR_ks R key j) HP.out)
  have HC := Lib.hid (mark_any R ⟨KA, kn, kc, CA, cn, cc⟩ key j wa (H.out.step BE.out))
  have h0b : (k == 0) = false := by simpa using h0
  have h1b : (k == 1) = false := by simpa using h1
  have h2b : (k == 2) = false := by simpa using h2
  go_wp2_with fail
  clear q0 q1 q2 q3 q4 q5 qz k0 k1 k2 k3
  refine HC.out.mono ?_
  rintro e w1 ⟨a1, rfl, hrr, hb1⟩
  obtain ⟨KA', kn', kc', CA', cn', cc'⟩ := a1
  have C2 := Lib.hid (B2.out.step hb1)
  have CE := Lib.hid (BE.out.step' hb1)
  have hN2 := B2.out.lt
  obtain ⟨r0, r1, r2, r3, r4, r5, rz⟩ := blk_ro C2.out
  generalize markR R key j = rr at *
  obtain ⟨S, err⟩ := rr
  have E0 := Lib.hid (C2.out.putR (a := ⟨KA', kn', kc', CA', cn', cc'⟩) (R := S))
  have E2 : Hid (Below w.heap.size w (setR w1 (w.heap.size + 2) ⟨KA', kn', kc', CA', cn', cc'⟩ S)) := below_setR CE.out (by omega) _ _
  have E1 : Hid (RR (setR w1 (w.heap.size + 2) ⟨KA', kn', kc', CA', cn', cc'⟩ S) ⟨KA', kn', kc', CA', cn', cc'⟩ S) := hrr.far HQ.out C2.out _ _
  clear hrr hb1 C2 CE
  go_wp2_with fail
  clear r0 r1 r2 r3 r4 r5 rz
  refine bodyPost_ret (results_ro_err rfl _ (w.heap.size + 2) rfl _ rfl _ ⟨KA', kn', kc', CA', cn', cc'⟩ S E0.out) rfl ?_
  exact RouOk.eq HV.out ⟨_, rfl, E1.out, E2.out⟩

end Go.Proofs.YtgcklgkhdokchaaDoor
