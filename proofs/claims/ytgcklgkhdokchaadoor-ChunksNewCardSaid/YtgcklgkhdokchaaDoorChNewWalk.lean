/- The walk of ChunksNew. -/
import Derived.Test.YtgcklgkhdokchaaDoorChAwake
import Derived.Test.YtgcklgkhdokchaaDoorChSame
namespace Go.Proofs.YtgcklgkhdokchaaDoor
open Go.RowKit

set_option maxRecDepth 100000 in
set_option maxHeartbeats 1000000 in
theorem chunksNew_walk (sp : ByteArray) (KA : Option Addr) (kn kc : Nat) (ha : Bool) (s : Int) (ks : List Od) (w : World) (hT : Tabs w) (hs : sp.size ≤ reach) (h : KS w KA kn kc ks) :
    Calls Tryd.prog 3 #[.agg #[.string sp, .slice KA kn kc, .bool ha, .int .i64 s]] w fun e w' => e = .returned (.bool true) ∧ Below w.heap.size w w' := by
  have HT := Lib.hid hT
  have H := Lib.hid h
  have HZ := Lib.hid hs
  clear hT h hs
  have B0 : Hid (Blk (w.alloc (Obj.cells #[.string sp, .slice KA kn kc, .bool ha, .int .i64 s] 26)) w.heap.size 26 #[.string sp, .slice KA kn kc, .bool ha, .int .i64 s]) := Blk.new_at rfl
  have BE : Hid (Below w.heap.size w (w.alloc (Obj.cells #[.string sp, .slice KA kn kc, .bool ha, .int .i64 s] 26))) := (Below.refl _ _).alloc (Nat.le_refl _) _
  go_enter Tryd.func3, Tryd.ntmps3
  go_upto_region 1 with fail
  change (Code.region 1 _ _).wp _ _ _ (w.alloc (Obj.cells #[.string sp, .slice KA kn kc, .bool ha, .int .i64 s] 26))
  generalize w.alloc (Obj.cells #[.string sp, .slice KA kn kc, .bool ha, .int .i64 s] 26) = wa at *
  have k0 := B0.out.cell 0
  have k1 := B0.out.cell 1
  have k2 := B0.out.cell 2
  have k3 := B0.out.cell 3
  simp at k0 k1 k2 k3
  by_cases h10 : 10 < kn
  · go_wp2_with fail
    refine (awake49_any wa (HT.out.step BE.out)).mono ?_
    rintro e w1 ⟨rfl, hb⟩
    go_wp2_with fail
    go_ret
    exact ⟨rfl, BE.out.step' hb⟩
  have HN := Lib.hid (new_any sp ks ha s KA kn kc wa (HT.out.step BE.out) HZ.out (H.out.step BE.out))
  go_wp2_with fail
  clear k0 k1 k2 k3
  refine HN.out.mono ?_
  rintro e w1 ⟨⟨KA1, kn1, kc1, CA1, cn1, cc1⟩, rfl, hr1, hb1⟩
  obtain ⟨S, hS⟩ : ∃ S, S = newR sp ks ha s := ⟨_, rfl⟩
  have HS := Lib.hid hS
  rw [← hS] at hr1 ⊢
  clear hS HN
  obtain ⟨S, er⟩ := S
  simp only at hr1
  have C0 := Lib.hid ((B0.out.step hb1).alloc (Obj.cells (rarr ⟨KA1, kn1, kc1, CA1, cn1, cc1⟩ S) 30))
  have CE := Lib.hid ((BE.out.step' hb1).alloc (BE.out.step' hb1).size (Obj.cells (rarr ⟨KA1, kn1, kc1, CA1, cn1, cc1⟩ S) 30))
  have CR := Lib.hid (hr1.alloc (Obj.cells (rarr ⟨KA1, kn1, kc1, CA1, cn1, cc1⟩ S) 30))
  have C1 : Hid (Blk (w1.alloc (Obj.cells (rarr ⟨KA1, kn1, kc1, CA1, cn1, cc1⟩ S) 30)) w1.heap.size 30 (rarr ⟨KA1, kn1, kc1, CA1, cn1, cc1⟩ S)) := Blk.new_at rfl
  clear hb1 hr1 B0 BE
  go_upto_region 4 with fail
  change (Code.region 4 _ _).wp _ _ _ (w1.alloc (Obj.cells (rarr ⟨KA1, kn1, kc1, CA1, cn1, cc1⟩ S) 30))
  generalize w1.alloc (Obj.cells (rarr ⟨KA1, kn1, kc1, CA1, cn1, cc1⟩ S) 30) = w2 at *
  generalize w1.heap.size = g1 at *
  have k0 := C0.out.cell 0
  have k1 := C0.out.cell 1
  have k2 := C0.out.cell 2
  have k3 := C0.out.cell 3
  simp at k0 k1 k2 k3
  have HN := Lib.hid (rnew_any sp ks ha s KA kn kc w2 HZ.out (H.out.step CE.out))
  go_wp2_with fail
  clear k0 k1 k2 k3
  refine HN.out.mono ?_
  rintro e w3 ⟨⟨KA2, kn2, kc2, CA2, cn2, cc2⟩, rfl, hr2, hb2⟩
  rw [← HS.out] at hr2 ⊢
  clear HN
  simp only at hr2
  have DE := Lib.hid ((CE.out.step' hb2).alloc (CE.out.step' hb2).size (Obj.cells (rarr ⟨KA2, kn2, kc2, CA2, cn2, cc2⟩ S) 30))
  have DR := Lib.hid ((CR.out.step hb2).alloc (Obj.cells (rarr ⟨KA2, kn2, kc2, CA2, cn2, cc2⟩ S) 30))
  have D1 := Lib.hid ((C1.out.step hb2).alloc (Obj.cells (rarr ⟨KA2, kn2, kc2, CA2, cn2, cc2⟩ S) 30))
  have DR2 := Lib.hid (hr2.alloc (Obj.cells (rarr ⟨KA2, kn2, kc2, CA2, cn2, cc2⟩ S) 30))
  have D2 : Hid (Blk (w3.alloc (Obj.cells (rarr ⟨KA2, kn2, kc2, CA2, cn2, cc2⟩ S) 30)) w3.heap.size 30 (rarr ⟨KA2, kn2, kc2, CA2, cn2, cc2⟩ S)) := Blk.new_at rfl
  clear hb2 hr2 C0 CE CR C1
  go_upto_region 5 with fail
  change (Code.region 5 _ _).wp _ _ _ (w3.alloc (Obj.cells (rarr ⟨KA2, kn2, kc2, CA2, cn2, cc2⟩ S) 30))
  generalize w3.alloc (Obj.cells (rarr ⟨KA2, kn2, kc2, CA2, cn2, cc2⟩ S) 30) = w4 at *
  generalize w3.heap.size = g2 at *
  obtain ⟨q0, q1, q2, q3, q4, q5, qz⟩ := blk_ro D1.out
  obtain ⟨r0, r1, r2, r3, r4, r5, rz⟩ := blk_ro D2.out
  simp only at q1 q5 r1 r5
  have hSM := same49_any S S ⟨KA1, kn1, kc1, CA1, cn1, cc1⟩ ⟨KA2, kn2, kc2, CA2, cn2, cc2⟩ w4 DR.out DR2.out
  rw [sameRo_refl] at hSM
  have HSM := Lib.hid hSM
  clear hSM
  go_wp2_with fail
  clear q0 q1 q2 q3 q4 q5 qz r0 r1 r2 r3 r4 r5 rz
  refine HSM.out.mono ?_
  rintro e w5 ⟨rfl, hb3⟩
  have HE := Lib.hid (DE.out.step' hb3)
  clear hb3
  go_wp2_with fail
  refine (awake49_any w5 (HT.out.step HE.out)).mono ?_
  rintro e w6 ⟨rfl, hb4⟩
  go_wp2_with fail
  go_ret
  exact ⟨rfl, HE.out.step' hb4⟩

end Go.Proofs.YtgcklgkhdokchaaDoor
