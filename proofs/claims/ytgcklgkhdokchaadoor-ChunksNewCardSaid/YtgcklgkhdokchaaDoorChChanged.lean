/- The contract of chunks.changed. -/
import Derived.Test.YtgcklgkhdokchaaDoorChCopy
namespace Go.Proofs.YtgcklgkhdokchaaDoor
open Go.RowKit

/-- routes that were copied, with the next version -/
def Ro.nx (R : Ro) : Ro := ⟨R.sp, R.ks, R.ha, R.ep, Go.Proofs.YtgcklgkhdokchaaDoor.nx R.ver, R.cs⟩
set_option maxRecDepth 100000 in
set_option maxHeartbeats 400000 in
theorem changed_any (B : Nat) (R : Ro) (a : RA) (w : World) (hB : B ≤ w.heap.size) (hk : KSF (fun b => b < B) w a.KA a.kn a.kc R.ks) (hc : CS w a.CA a.cn a.cc R.cs) : Calls Tryd.prog 33 #[rval a R] w (CopOk B w R.nx) := by
  obtain ⟨KA, kn, kc, CA, cn, cc⟩ := a
  have HK := Lib.hid hk
  have HC := Lib.hid hc
  clear hk hc
  have B0 : Hid (Blk ((w.alloc (Obj.cells (rarr ⟨KA, kn, kc, CA, cn, cc⟩ R) 30)).alloc (Obj.cells (rarr RA.zero Ro.zero) 30)) w.heap.size 30 (rarr ⟨KA, kn, kc, CA, cn, cc⟩ R)) := (Blk.new_at rfl).alloc _
  have B1 : Hid (Blk ((w.alloc (Obj.cells (rarr ⟨KA, kn, kc, CA, cn, cc⟩ R) 30)).alloc (Obj.cells (rarr RA.zero Ro.zero) 30)) (w.heap.size + 1) 30 (rarr RA.zero Ro.zero)) := Blk.new_at (by simp)
  have BE : Hid (Below w.heap.size w ((w.alloc (Obj.cells (rarr ⟨KA, kn, kc, CA, cn, cc⟩ R) 30)).alloc (Obj.cells (rarr RA.zero Ro.zero) 30))) := ((Below.refl _ _).alloc (Nat.le_refl _) _).alloc (by simp) _
  go_enter Tryd.func33, Tryd.ntmps33
  go_upto_region 1 with fail
  change (Code.region 1 _ _).wp _ _ _ ((w.alloc (Obj.cells (rarr ⟨KA, kn, kc, CA, cn, cc⟩ R) 30)).alloc (Obj.cells (rarr RA.zero Ro.zero) 30))
  have hsz : ((w.alloc (Obj.cells (rarr ⟨KA, kn, kc, CA, cn, cc⟩ R) 30)).alloc (Obj.cells (rarr RA.zero Ro.zero) 30)).heap.size = w.heap.size + 2 := by simp
  generalize (w.alloc (Obj.cells (rarr ⟨KA, kn, kc, CA, cn, cc⟩ R) 30)).alloc (Obj.cells (rarr RA.zero Ro.zero) 30) = wa at *
  have HSZ := Lib.hid hsz
  clear hsz
  have q0 := B0.out.cell 0
  have q1 := B0.out.cell 1
  have q2 := B0.out.cell 2
  have q3 := B0.out.cell 3
  have q4 := B0.out.cell 4
  have q5 := B0.out.cell 5
  simp at q0 q1 q2 q3 q4 q5
  go_wp2_with fail
  clear q0 q1 q2 q3 q4 q5
  refine (copied_any B R ⟨KA, kn, kc, CA, cn, cc⟩ wa (by have := HSZ.out; omega) (HK.out.keep (by have := HSZ.out; omega) fun b hF hlt => ⟨hF, BE.out.block b hlt⟩) (HC.out.step BE.out)).mono ?_
  rintro e w1 ⟨⟨KA', kn', kc', CA', cn', cc'⟩, rfl, hks, hown, hln, hcz, hb1⟩
  rw [HSZ.out] at hks hown hb1
  have HLN := Lib.hid hln
  have HCZ := Lib.hid hcz
  clear hln hcz
  have g0 := B0.out.below hb1 (by omega)
  have g1 := B1.out.below hb1 (by omega)
  have z := g0.frozen
  obtain ⟨y0, y1, y2, y3, y4, y5⟩ : w1.cell? ⟨w.heap.size, 0, none⟩ = some (.string R.sp) ∧ w1.cell? ⟨w.heap.size, 1, none⟩ = some (.slice KA kn kc) ∧ w1.cell? ⟨w.heap.size, 2, none⟩ = some (.bool R.ha) ∧ w1.cell? ⟨w.heap.size, 3, none⟩ = some (.int .i64 R.ep) ∧ w1.cell? ⟨w.heap.size, 4, none⟩ = some (.int .i64 R.ver) ∧ w1.cell? ⟨w.heap.size, 5, none⟩ = some (.slice CA cn cc) := by
    refine ⟨?_, ?_, ?_, ?_, ?_, ?_⟩ <;> rw [g0.cell] <;> rfl
  have hgel := own_ge hown
  have D0 : Hid (Blk ((setR w1 w.heap.size ⟨KA', kn', kc', CA', cn', cc'⟩ R).setCell ⟨w.heap.size, 4, none⟩ (.int .i64 (nx R.ver))) w.heap.size 30 (rarr ⟨KA', kn', kc', CA', cn', cc'⟩ R.nx)) := (g0.putR (a := ⟨KA', kn', kc', CA', cn', cc'⟩) (R := R)).set_ 4 _
  have hpt : ∀ b, b ≠ w.heap.size → ((setR w1 w.heap.size ⟨KA', kn', kc', CA', cn', cc'⟩ R).setCell ⟨w.heap.size, 4, none⟩ (.int .i64 (nx R.ver))).heap[b]? = w1.heap[b]? := fun b h => by
    rw [Below.heap_setCell _ _ _ b h]; exact heap_setR _ _ _ _ b h
  have hps : ((setR w1 w.heap.size ⟨KA', kn', kc', CA', cn', cc'⟩ R).setCell ⟨w.heap.size, 4, none⟩ (.int .i64 (nx R.ver))).heap.size = w1.heap.size := by simp
  have D1 : Hid (Blk ((setR w1 w.heap.size ⟨KA', kn', kc', CA', cn', cc'⟩ R).setCell ⟨w.heap.size, 4, none⟩ (.int .i64 (nx R.ver))) (w.heap.size + 1) 30 (rarr RA.zero Ro.zero)) := (hpt _ (by omega)).trans g1
  have DO := Lib.hid (own_keep hown fun g hg => hpt g (by have := hgel g hg; omega))
  have DB : Hid (Below w.heap.size w ((setR w1 w.heap.size ⟨KA', kn', kc', CA', cn', cc'⟩ R).setCell ⟨w.heap.size, 4, none⟩ (.int .i64 (nx R.ver)))) := (below_setR (BE.out.trans (hb1.mono (by omega))) (Nat.le_refl _) _ _).setCell (Nat.le_refl _) _
  have DK := Lib.hid (hks.keep (G := fun b => (b < B ∨ w.heap.size + 2 ≤ b) ∧ (Value.slice CA' cn' cc').ownBlock ≠ some b) (by rw [hps]; exact Nat.le_refl _) fun b hF _ => ⟨hF, hpt b (by have := hF.1; omega)⟩)
  clear g0 g1 hks hown hb1 hpt hps hgel HK HC B0 B1 BE
  go_upto_region 2 with fail
  go_upto_region 3 with fail
  clear y0 y1 y2 y3 y4 y5 z
  change (Code.region 3 _ _).wp _ _ _ ((setR w1 w.heap.size ⟨KA', kn', kc', CA', cn', cc'⟩ R).setCell ⟨w.heap.size, 4, none⟩ (.int .i64 (nx R.ver)))
  generalize (setR w1 w.heap.size ⟨KA', kn', kc', CA', cn', cc'⟩ R).setCell ⟨w.heap.size, 4, none⟩ (.int .i64 (nx R.ver)) = w4 at *
  have q0 := D0.out.cell 0
  have q1 := D0.out.cell 1
  have q2 := D0.out.cell 2
  have q3 := D0.out.cell 3
  have q4 := D0.out.cell 4
  have q5 := D0.out.cell 5
  have r0 := D1.out.cell 0
  have r1 := D1.out.cell 1
  have r2 := D1.out.cell 2
  have r3 := D1.out.cell 3
  have r4 := D1.out.cell 4
  have r5 := D1.out.cell 5
  have z := D1.out.frozen
  simp at q0 q1 q2 q3 q4 q5 r0 r1 r2 r3 r4 r5
  have E0 := Lib.hid (D1.out.putR (a := ⟨KA', kn', kc', CA', cn', cc'⟩) (R := R.nx))
  have E1 : Hid (KSF (fun b => (b < B ∨ w.heap.size ≤ b) ∧ (Value.slice CA' cn' cc').ownBlock ≠ some b) (setR w4 (w.heap.size + 1) ⟨KA', kn', kc', CA', cn', cc'⟩ R.nx) KA' kn' kc' R.ks) :=
    DK.out.keep (by rw [size_setR]; exact Nat.le_refl _) fun b hF _ => ⟨⟨by omega, hF.2⟩, heap_setR _ _ _ _ b (by omega)⟩
  have E2 : Hid ((setR w4 (w.heap.size + 1) ⟨KA', kn', kc', CA', cn', cc'⟩ R.nx).ownsRow w.heap.size 45 5 (.slice CA' cn' cc') cn' (flat recC R.cs)) :=
    own_mono (own_keep DO.out fun g hg => heap_setR _ _ _ _ g (by have := own_ge DO.out g hg; omega)) (by omega)
  have E3 : Hid (Below w.heap.size w (setR w4 (w.heap.size + 1) ⟨KA', kn', kc', CA', cn', cc'⟩ R.nx)) := below_setR DB.out (by omega) _ _
  clear DK DO DB D0 D1
  go_wp2_with fail
  clear q0 q1 q2 q3 q4 q5 r0 r1 r2 r3 r4 r5 z
  refine bodyPost_ret (results_ro rfl _ (w.heap.size + 1) rfl _ ⟨KA', kn', kc', CA', cn', cc'⟩ R.nx E0.out) rfl ?_
  exact ⟨⟨KA', kn', kc', CA', cn', cc'⟩, rfl, E1.out, E2.out, HLN.out, HCZ.out, E3.out⟩

end Go.Proofs.YtgcklgkhdokchaaDoor
