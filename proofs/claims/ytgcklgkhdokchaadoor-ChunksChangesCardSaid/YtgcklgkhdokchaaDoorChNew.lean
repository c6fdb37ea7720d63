/- The contracts of New, of the program and of the reference. Printed by gen_chnew.py. -/
import Derived.Test.YtgcklgkhdokchaaDoorChRefValid
import Derived.Test.YtgcklgkhdokchaaDoorChBaseB
namespace Go.Proofs.YtgcklgkhdokchaaDoor
open Go.RowKit

theorem CS.setR_far {w : World} {g b off n c : Nat} {l : List Ch} (h : CS w (some ⟨b, off, none⟩) n c l) (hb : b ≠ g) (a : RA) (R : Ro) : CS (setR w g a R) (some ⟨b, off, none⟩) n c l := by
  refine ⟨⟨h.sr.ln, h.sr.lc, fun hn => ?_⟩, h.sz⟩
  obtain ⟨b', off', h1, h2, h3⟩ := h.sr.el hn
  cases h1
  exact ⟨b, off, rfl, by rw [size_setR]; exact h2, fun i a hi j v hj => (World.cell?_of_block (w := w) (a := ⟨b, off + i * 5 + j, none⟩) (heap_setR _ _ _ _ b hb)).trans (h3 i a hi j v hj)⟩

set_option maxRecDepth 100000 in
set_option maxHeartbeats 400000 in
theorem new_any (sp : ByteArray) (ks : List Od) (ha : Bool) (s : Int) (KA : Option Addr) (kn kc : Nat) (w : World) (hT : Tabs w) (hs : sp.size ≤ reach) (h : KS w KA kn kc ks) :
    Calls Tryd.prog 9 #[.string sp, .agg #[.slice KA kn kc, .bool ha], .int .i64 s] w (RouOk (newR sp ks ha s) w) := by
  have H := Lib.hid h
  clear h
  have B1 : Hid (Blk ((((w.alloc (Obj.cells #[.slice KA kn kc, .bool ha] 24)).alloc (Obj.cells (rarr RA.zero Ro.zero) 30)).alloc (Obj.cells #[.string ⟨#[]⟩, .string ⟨#[]⟩, .int .i64 s, .int .i64 1, .bool false] 45)).alloc (Obj.cells #[.string sp, .slice KA kn kc, .bool ha, .int .i64 1, .int .i64 1, .slice (some ⟨w.heap.size + 2, 0, none⟩) 1 1] 30)) (w.heap.size + 1) 30 (rarr RA.zero Ro.zero)) := ((Blk.new_at (by simp)).alloc _).alloc _
  have B2 : Hid (Blk ((((w.alloc (Obj.cells #[.slice KA kn kc, .bool ha] 24)).alloc (Obj.cells (rarr RA.zero Ro.zero) 30)).alloc (Obj.cells #[.string ⟨#[]⟩, .string ⟨#[]⟩, .int .i64 s, .int .i64 1, .bool false] 45)).alloc (Obj.cells #[.string sp, .slice KA kn kc, .bool ha, .int .i64 1, .int .i64 1, .slice (some ⟨w.heap.size + 2, 0, none⟩) 1 1] 30)) (w.heap.size + 2) 45 #[.string ⟨#[]⟩, .string ⟨#[]⟩, .int .i64 s, .int .i64 1, .bool false]) := (Blk.new_at (by simp)).alloc _
  have B3 : Hid (Blk ((((w.alloc (Obj.cells #[.slice KA kn kc, .bool ha] 24)).alloc (Obj.cells (rarr RA.zero Ro.zero) 30)).alloc (Obj.cells #[.string ⟨#[]⟩, .string ⟨#[]⟩, .int .i64 s, .int .i64 1, .bool false] 45)).alloc (Obj.cells #[.string sp, .slice KA kn kc, .bool ha, .int .i64 1, .int .i64 1, .slice (some ⟨w.heap.size + 2, 0, none⟩) 1 1] 30)) (w.heap.size + 3) 30 (rarr ⟨KA, kn, kc, some ⟨w.heap.size + 2, 0, none⟩, 1, 1⟩ ⟨sp, ks, ha, 1, 1, [⟨ByteArray.empty, ByteArray.empty, s, 1, false⟩]⟩)) := Blk.new_at (by simp)
  have BE : Hid (Below w.heap.size w ((((w.alloc (Obj.cells #[.slice KA kn kc, .bool ha] 24)).alloc (Obj.cells (rarr RA.zero Ro.zero) 30)).alloc (Obj.cells #[.string ⟨#[]⟩, .string ⟨#[]⟩, .int .i64 s, .int .i64 1, .bool false] 45)).alloc (Obj.cells #[.string sp, .slice KA kn kc, .bool ha, .int .i64 1, .int .i64 1, .slice (some ⟨w.heap.size + 2, 0, none⟩) 1 1] 30))) := ((((Below.refl _ _).alloc (Nat.le_refl _) _).alloc (by simp) _).alloc (by simp; omega) _).alloc (by simp; omega) _
  go_enter Tryd.func9, Tryd.ntmps9
  go_upto_region 2 with fail
  change (Code.region 2 _ _).wp _ _ _ ((((w.alloc (Obj.cells #[.slice KA kn kc, .bool ha] 24)).alloc (Obj.cells (rarr RA.zero Ro.zero) 30)).alloc (Obj.cells #[.string ⟨#[]⟩, .string ⟨#[]⟩, .int .i64 s, .int .i64 1, .bool false] 45)).alloc (Obj.cells #[.string sp, .slice KA kn kc, .bool ha, .int .i64 1, .int .i64 1, .slice (some ⟨w.heap.size + 2, 0, none⟩) 1 1] 30))
  generalize (((w.alloc (Obj.cells #[.slice KA kn kc, .bool ha] 24)).alloc (Obj.cells (rarr RA.zero Ro.zero) 30)).alloc (Obj.cells #[.string ⟨#[]⟩, .string ⟨#[]⟩, .int .i64 s, .int .i64 1, .bool false] 45)).alloc (Obj.cells #[.string sp, .slice KA kn kc, .bool ha, .int .i64 1, .int .i64 1, .slice (some ⟨w.heap.size + 2, 0, none⟩) 1 1] 30) = wa at *
  have HCS : Hid (CS wa (some ⟨w.heap.size + 2, 0, none⟩) 1 1 [⟨ByteArray.empty, ByteArray.empty, s, 1, false⟩]) := by
    refine ⟨⟨rfl, Nat.le_refl _, fun _ => ⟨_, _, rfl, B2.out.lt, fun i a hi j v hj => ?_⟩⟩, by show 1 * 56 ≤ reach; decide⟩
    have hi0 : i = 0 := by have := (List.getElem?_eq_some_iff.1 hi).1; simpa using this
    subst hi0
    simp at hi
    subst hi
    rw [B2.out.cell, Nat.zero_mul, Nat.zero_add, ← Array.getElem?_toList]
    exact hj
  obtain ⟨R1, hR1⟩ : ∃ R1 : Ro, R1 = ⟨sp, ks, ha, 1, 1, [⟨ByteArray.empty, ByteArray.empty, s, 1, false⟩]⟩ := ⟨_, rfl⟩
  have HRR : Hid (RR wa ⟨KA, kn, kc, some ⟨w.heap.size + 2, 0, none⟩, 1, 1⟩ R1) := by rw [hR1]; exact ⟨hs, H.out.step BE.out, HCS.out⟩
  have HNV : Hid (newR sp ks ha s = if routE R1 ≠ 0 then (Ro.zero, routE R1) else (R1, 0)) := by rw [hR1]; rfl
  rw [← hR1] at B3
  obtain ⟨q0, q1, q2, q3, q4, q5, qz⟩ := blk_ro B3.out
  simp only at q1 q5
  have HKK : Hid (R1.ks = ks) := by rw [hR1]; rfl
  have HCC : Hid (R1.cs = [⟨ByteArray.empty, ByteArray.empty, s, 1, false⟩]) := by rw [hR1]; rfl
  have HSP : Hid (R1.sp.size ≤ reach) := by rw [hR1]; exact hs
  clear hR1
  go_wp2_with fail
  clear q0 q1 q2 q3 q4 q5 qz
  refine (valid49_any R1 ⟨KA, kn, kc, some ⟨w.heap.size + 2, 0, none⟩, 1, 1⟩ wa (hT.step BE.out) HRR.out).mono ?_
  rintro e w1 ⟨rfl, hb1⟩
  have C1 := Lib.hid (B1.out.step hb1)
  have C3 := Lib.hid (B3.out.step hb1)
  have CE := Lib.hid (BE.out.step' hb1)
  have CR := Lib.hid (HRR.out.step hb1)
  clear hb1 B1 B2 B3 BE HRR
  by_cases he : routE R1 = 0
  rotate_left
  · have HVE : Hid (newR sp ks ha s = (Ro.zero, routE R1)) := by rw [Hid, HNV.out, if_pos he]
    have he' : (routE R1 != 0) = true := by simpa using he
    obtain ⟨r0, r1, r2, r3, r4, r5, rz⟩ := blk_ro C1.out
    have E := Lib.hid (change_err (routE R1) C1.out (by omega) CE.out)
    go_wp2_with fail
    refine bodyPost_ret (results_ro_err rfl _ (w.heap.size + 1) rfl _ rfl _ RA.zero Ro.zero E.out.2) rfl ?_
    exact E.out.1.eq HVE.out
  have HVE : Hid (newR sp ks ha s = (R1, 0)) := by rw [Hid, HNV.out, if_neg (by simpa using he)]
  rw [he]
  clear he HNV
  obtain ⟨q0, q1, q2, q3, q4, q5, qz⟩ := blk_ro C3.out
  simp only at q1 q5
  have HCP := Lib.hid (copied_any w.heap.size R1 ⟨KA, kn, kc, some ⟨w.heap.size + 2, 0, none⟩, 1, 1⟩ w1 CE.out.size (by rw [HKK.out]; exact H.out.toB CE.out) CR.out.cs)
  go_wp2_with fail
  clear q0 q1 q2 q3 q4 q5 qz
  refine HCP.out.mono ?_
  rintro e w3 ⟨⟨KA', kn', kc', CA', cn', cc'⟩, rfl, hks, hown, hln, hcz, hb3⟩
  have hN1 := C1.out.lt
  have E := Lib.hid (change_end (lo := w1.heap.size) (a := ⟨KA', kn', kc', CA', cn', cc'⟩) rfl (C1.out.step hb3) (by omega) hN1 HSP.out (hks.keep (Nat.le_refl _) fun b hF _ => ⟨hF.1, rfl⟩) hown hln hcz (CE.out.step' hb3))
  obtain ⟨r0, r1, r2, r3, r4, r5, rz⟩ := blk_ro (C1.out.step hb3)
  clear hks hown hln hcz hb3
  go_wp2_with fail
  clear r0 r1 r2 r3 r4 r5 rz
  refine bodyPost_ret (results_ro_err rfl _ (w.heap.size + 1) rfl _ rfl _ ⟨KA', kn', kc', CA', cn', cc'⟩ R1 E.out.2) rfl ?_
  exact E.out.1.eq HVE.out

set_option maxRecDepth 100000 in
set_option maxHeartbeats 400000 in
theorem rnew_any (sp : ByteArray) (ks : List Od) (ha : Bool) (s : Int) (KA : Option Addr) (kn kc : Nat) (w : World) (hs : sp.size ≤ reach) (h : KS w KA kn kc ks) :
    Calls Tryd.prog 10 #[.string sp, .agg #[.slice KA kn kc, .bool ha], .int .i64 s] w (RouOk (newR sp ks ha s) w) := by
  have H := Lib.hid h
  clear h
  have B1 : Hid (Blk ((((w.alloc (Obj.cells #[.slice KA kn kc, .bool ha] 24)).alloc (Obj.cells (rarr RA.zero Ro.zero) 30)).alloc (Obj.cells #[.string ⟨#[]⟩, .string ⟨#[]⟩, .int .i64 s, .int .i64 1, .bool false] 45)).alloc (Obj.cells #[.string sp, .slice KA kn kc, .bool ha, .int .i64 1, .int .i64 1, .slice (some ⟨w.heap.size + 2, 0, none⟩) 1 1] 30)) (w.heap.size + 1) 30 (rarr RA.zero Ro.zero)) := ((Blk.new_at (by simp)).alloc _).alloc _
  have B2 : Hid (Blk ((((w.alloc (Obj.cells #[.slice KA kn kc, .bool ha] 24)).alloc (Obj.cells (rarr RA.zero Ro.zero) 30)).alloc (Obj.cells #[.string ⟨#[]⟩, .string ⟨#[]⟩, .int .i64 s, .int .i64 1, .bool false] 45)).alloc (Obj.cells #[.string sp, .slice KA kn kc, .bool ha, .int .i64 1, .int .i64 1, .slice (some ⟨w.heap.size + 2, 0, none⟩) 1 1] 30)) (w.heap.size + 2) 45 #[.string ⟨#[]⟩, .string ⟨#[]⟩, .int .i64 s, .int .i64 1, .bool false]) := (Blk.new_at (by simp)).alloc _
  have B3 : Hid (Blk ((((w.alloc (Obj.cells #[.slice KA kn kc, .bool ha] 24)).alloc (Obj.cells (rarr RA.zero Ro.zero) 30)).alloc (Obj.cells #[.string ⟨#[]⟩, .string ⟨#[]⟩, .int .i64 s, .int .i64 1, .bool false] 45)).alloc (Obj.cells #[.string sp, .slice KA kn kc, .bool ha, .int .i64 1, .int .i64 1, .slice (some ⟨w.heap.size + 2, 0, none⟩) 1 1] 30)) (w.heap.size + 3) 30 (rarr ⟨KA, kn, kc, some ⟨w.heap.size + 2, 0, none⟩, 1, 1⟩ ⟨sp, ks, ha, 1, 1, [⟨ByteArray.empty, ByteArray.empty, s, 1, false⟩]⟩)) := Blk.new_at (by simp)
  have BE : Hid (Below w.heap.size w ((((w.alloc (Obj.cells #[.slice KA kn kc, .bool ha] 24)).alloc (Obj.cells (rarr RA.zero Ro.zero) 30)).alloc (Obj.cells #[.string ⟨#[]⟩, .string ⟨#[]⟩, .int .i64 s, .int .i64 1, .bool false] 45)).alloc (Obj.cells #[.string sp, .slice KA kn kc, .bool ha, .int .i64 1, .int .i64 1, .slice (some ⟨w.heap.size + 2, 0, none⟩) 1 1] 30))) := ((((Below.refl _ _).alloc (Nat.le_refl _) _).alloc (by simp) _).alloc (by simp; omega) _).alloc (by simp; omega) _
  go_enter Tryd.func10, Tryd.ntmps10
  go_upto_region 2 with fail
  change (Code.region 2 _ _).wp _ _ _ ((((w.alloc (Obj.cells #[.slice KA kn kc, .bool ha] 24)).alloc (Obj.cells (rarr RA.zero Ro.zero) 30)).alloc (Obj.cells #[.string ⟨#[]⟩, .string ⟨#[]⟩, .int .i64 s, .int .i64 1, .bool false] 45)).alloc (Obj.cells #[.string sp, .slice KA kn kc, .bool ha, .int .i64 1, .int .i64 1, .slice (some ⟨w.heap.size + 2, 0, none⟩) 1 1] 30))
  generalize (((w.alloc (Obj.cells #[.slice KA kn kc, .bool ha] 24)).alloc (Obj.cells (rarr RA.zero Ro.zero) 30)).alloc (Obj.cells #[.string ⟨#[]⟩, .string ⟨#[]⟩, .int .i64 s, .int .i64 1, .bool false] 45)).alloc (Obj.cells #[.string sp, .slice KA kn kc, .bool ha, .int .i64 1, .int .i64 1, .slice (some ⟨w.heap.size + 2, 0, none⟩) 1 1] 30) = wa at *
  have HCS : Hid (CS wa (some ⟨w.heap.size + 2, 0, none⟩) 1 1 [⟨ByteArray.empty, ByteArray.empty, s, 1, false⟩]) := by
    refine ⟨⟨rfl, Nat.le_refl _, fun _ => ⟨_, _, rfl, B2.out.lt, fun i a hi j v hj => ?_⟩⟩, by show 1 * 56 ≤ reach; decide⟩
    have hi0 : i = 0 := by have := (List.getElem?_eq_some_iff.1 hi).1; simpa using this
    subst hi0
    simp at hi
    subst hi
    rw [B2.out.cell, Nat.zero_mul, Nat.zero_add, ← Array.getElem?_toList]
    exact hj
  obtain ⟨R1, hR1⟩ : ∃ R1 : Ro, R1 = ⟨sp, ks, ha, 1, 1, [⟨ByteArray.empty, ByteArray.empty, s, 1, false⟩]⟩ := ⟨_, rfl⟩
  have HRR : Hid (RR wa ⟨KA, kn, kc, some ⟨w.heap.size + 2, 0, none⟩, 1, 1⟩ R1) := by rw [hR1]; exact ⟨hs, H.out.step BE.out, HCS.out⟩
  have HNV : Hid (newR sp ks ha s = if routE R1 ≠ 0 then (Ro.zero, routE R1) else (R1, 0)) := by rw [hR1]; rfl
  rw [← hR1] at B3
  obtain ⟨q0, q1, q2, q3, q4, q5, qz⟩ := blk_ro B3.out
  simp only at q1 q5
  have HKK : Hid (R1.ks = ks) := by rw [hR1]; rfl
  have HCC : Hid (R1.cs = [⟨ByteArray.empty, ByteArray.empty, s, 1, false⟩]) := by rw [hR1]; rfl
  have HSP : Hid (R1.sp.size ≤ reach) := by rw [hR1]; exact hs
  clear hR1
  go_wp2_with fail
  clear q0 q1 q2 q3 q4 q5 qz
  refine (rvalid49_any R1 ⟨KA, kn, kc, some ⟨w.heap.size + 2, 0, none⟩, 1, 1⟩ wa HRR.out).mono ?_
  rintro e w1 ⟨rfl, hb1⟩
  have C1 := Lib.hid (B1.out.step hb1)
  have C3 := Lib.hid (B3.out.step hb1)
  have CE := Lib.hid (BE.out.step' hb1)
  have CR := Lib.hid (HRR.out.step hb1)
  clear hb1 B1 B2 B3 BE HRR
  by_cases he : routE R1 = 0
  rotate_left
  · have HVE : Hid (newR sp ks ha s = (Ro.zero, routE R1)) := by rw [Hid, HNV.out, if_pos he]
    have he' : (routE R1 != 0) = true := by simpa using he
    obtain ⟨r0, r1, r2, r3, r4, r5, rz⟩ := blk_ro C1.out
    have E := Lib.hid (change_err (routE R1) C1.out (by omega) CE.out)
    go_wp2_with fail
    refine bodyPost_ret (results_ro_err rfl _ (w.heap.size + 1) rfl _ rfl _ RA.zero Ro.zero E.out.2) rfl ?_
    exact E.out.1.eq HVE.out
  have HVE : Hid (newR sp ks ha s = (R1, 0)) := by rw [Hid, HNV.out, if_neg (by simpa using he)]
  rw [he]
  clear he HNV
  obtain ⟨q0, q1, q2, q3, q4, q5, qz⟩ := blk_ro C3.out
  simp only at q1 q5
  obtain ⟨r0, r1, r2, r3, r4, r5, rz⟩ := blk_ro C1.out
  have E0 := Lib.hid (C1.out.putR (a := ⟨KA, kn, kc, some ⟨w.heap.size + 2, 0, none⟩, 1, 1⟩) (R := R1))
  have E2 : Hid (Below w.heap.size w (setR w1 (w.heap.size + 1) ⟨KA, kn, kc, some ⟨w.heap.size + 2, 0, none⟩, 1, 1⟩ R1)) := below_setR CE.out (by omega) _ _
  have E1 : Hid (RR (setR w1 (w.heap.size + 1) ⟨KA, kn, kc, some ⟨w.heap.size + 2, 0, none⟩, 1, 1⟩ R1) ⟨KA, kn, kc, some ⟨w.heap.size + 2, 0, none⟩, 1, 1⟩ R1) := by
    exact ⟨HSP.out, by rw [HKK.out]; exact H.out.step E2.out, CR.out.cs.setR_far (by omega) _ _⟩
  clear C1 C3 CE CR
  go_wp2_with fail
  clear q0 q1 q2 q3 q4 q5 qz r0 r1 r2 r3 r4 r5 rz
  refine bodyPost_ret (results_ro_err rfl _ (w.heap.size + 1) rfl _ rfl _ ⟨KA, kn, kc, some ⟨w.heap.size + 2, 0, none⟩, 1, 1⟩ R1 E0.out) rfl ?_
  exact RouOk.eq HVE.out ⟨_, rfl, E1.out, E2.out⟩

end Go.Proofs.YtgcklgkhdokchaaDoor
