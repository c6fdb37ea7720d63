/- The contract of awake. -/
import Derived.Test.YtgcklgkhdokchaaDoorChAwPure
import Derived.Test.YtgcklgkhdokchaaDoorChNew
import Derived.Test.YtgcklgkhdokchaaDoorChBaseC
namespace Go.Proofs.YtgcklgkhdokchaaDoor
open Go.RowKit

theorem st4 {w : World} {g : Nat} {a b c d : ByteArray} (h : Blk w g 9 #[.string a, .string b, .string c, .string d]) (hs : ∀ s ∈ [a, b, c, d], s.size ≤ reach) : ST w (some ⟨g, 0, none⟩) 4 4 [a, b, c, d] := by
  refine ⟨⟨rfl, Nat.le_refl _, fun _ => ⟨g, 0, rfl, h.lt, fun i x hi j v hj => ?_⟩⟩, by show 4 * 16 ≤ reach; decide, hs⟩
  rw [Nat.zero_add, h.cell, ← Array.getElem?_toList]
  exact flat_get (rec := recT) recT_length hi hj
theorem ks1 {w : World} {g g1 : Nat} {a : ByteArray} (h : Blk w g 9 #[.string a]) (h1 : Blk w g1 53 #[.slice (some ⟨g, 0, none⟩) 1 1, .bool false]) (hs : a.size ≤ reach) : KS w (some ⟨g1, 0, none⟩) 1 1 [⟨[a], false⟩] := by
  refine ⟨[⟨some ⟨g, 0, none⟩, 1, 1, false⟩], ⟨rfl, Nat.le_refl _, fun _ => ⟨g1, 0, rfl, h1.lt, fun i x hi j v hj => ?_⟩⟩, by show 1 * 32 ≤ reach; decide, rfl, fun i o q hi hq => ?_⟩
  · rw [Nat.zero_add, h1.cell, ← Array.getElem?_toList]
    exact flat_get (rec := recO) recO_length (xs := [⟨some ⟨g, 0, none⟩, 1, 1, false⟩]) hi hj
  · have hi0 : i = 0 := by have := (List.getElem?_eq_some_iff.1 hi).1; simpa using this
    subst hi0
    simp at hi hq
    subst hi hq
    refine ⟨rfl, ⟨⟨rfl, Nat.le_refl _, fun _ => ⟨g, 0, rfl, h.lt, fun i x hi j v hj => ?_⟩⟩, by show 1 * 16 ≤ reach; decide, fun s hs' => by simp at hs'; rw [hs']; exact hs⟩⟩
    rw [Nat.zero_add, h.cell, ← Array.getElem?_toList]
    exact flat_get (rec := recT) recT_length (xs := [a]) hi hj

set_option maxRecDepth 100000 in
set_option maxHeartbeats 1000000 in
theorem awake49_any (w : World) (hT : Tabs w) : Calls Tryd.prog 8 #[] w fun e w' => e = .returned (.bool true) ∧ Below w.heap.size w w' := by
  have HT := Lib.hid hT
  clear hT
  have B0 : Hid (Blk (((w.alloc (Obj.cells #[.string aA] 9)).alloc (Obj.cells #[.slice (some ⟨w.heap.size, 0, none⟩) 1 1, .bool false] 53)).alloc (Obj.cells #[.slice (some ⟨w.heap.size + 1, 0, none⟩) 1 1, .bool false] 24)) w.heap.size 9 #[.string aA]) := ((Blk.new_at rfl).alloc _).alloc _
  have B1 : Hid (Blk (((w.alloc (Obj.cells #[.string aA] 9)).alloc (Obj.cells #[.slice (some ⟨w.heap.size, 0, none⟩) 1 1, .bool false] 53)).alloc (Obj.cells #[.slice (some ⟨w.heap.size + 1, 0, none⟩) 1 1, .bool false] 24)) (w.heap.size + 1) 53 #[.slice (some ⟨w.heap.size, 0, none⟩) 1 1, .bool false]) := (Blk.new_at (by simp)).alloc _
  have B2 : Hid (Blk (((w.alloc (Obj.cells #[.string aA] 9)).alloc (Obj.cells #[.slice (some ⟨w.heap.size, 0, none⟩) 1 1, .bool false] 53)).alloc (Obj.cells #[.slice (some ⟨w.heap.size + 1, 0, none⟩) 1 1, .bool false] 24)) (w.heap.size + 2) 24 #[.slice (some ⟨w.heap.size + 1, 0, none⟩) 1 1, .bool false]) := Blk.new_at (by simp)
  have BE : Hid (Below w.heap.size w (((w.alloc (Obj.cells #[.string aA] 9)).alloc (Obj.cells #[.slice (some ⟨w.heap.size, 0, none⟩) 1 1, .bool false] 53)).alloc (Obj.cells #[.slice (some ⟨w.heap.size + 1, 0, none⟩) 1 1, .bool false] 24))) := (((Below.refl _ _).alloc (Nat.le_refl _) _).alloc (by simp) _).alloc (by simp; omega) _
  go_enter Tryd.func8, Tryd.ntmps8
  go_upto_region 2 with fail
  change (Code.region 2 _ _).wp _ _ _ (((w.alloc (Obj.cells #[.string aA] 9)).alloc (Obj.cells #[.slice (some ⟨w.heap.size, 0, none⟩) 1 1, .bool false] 53)).alloc (Obj.cells #[.slice (some ⟨w.heap.size + 1, 0, none⟩) 1 1, .bool false] 24))
  generalize ((w.alloc (Obj.cells #[.string aA] 9)).alloc (Obj.cells #[.slice (some ⟨w.heap.size, 0, none⟩) 1 1, .bool false] 53)).alloc (Obj.cells #[.slice (some ⟨w.heap.size + 1, 0, none⟩) 1 1, .bool false] 24) = w1 at *
  have HKS := Lib.hid (ks1 B0.out B1.out (show aA.size ≤ reach by decide))
  have k0 := B2.out.cell 0
  have k1 := B2.out.cell 1
  simp at k0 k1
  have hN := new_any aC aK false 0 (some ⟨w.heap.size + 1, 0, none⟩) 1 1 w1 (HT.out.step BE.out) (by decide) HKS.out
  rw [aw_new] at hN
  have HN := Lib.hid hN
  clear hN
  go_wp2_with fail
  clear k0 k1
  refine HN.out.mono ?_
  rintro e w2 ⟨⟨KA1, kn1, kc1, CA1, cn1, cc1⟩, rfl, hr1, hb1⟩
  replace hr1 : RR w2 ⟨KA1, kn1, kc1, CA1, cn1, cc1⟩ aR := hr1
  obtain rfl : cn1 = 1 := hr1.cs.ln
  have C2 := Lib.hid ((B2.out.step hb1).alloc (Obj.cells (rarr ⟨KA1, kn1, kc1, CA1, 1, cc1⟩ aR) 30))
  have CK := Lib.hid ((HKS.out.step hb1).step ((Below.refl _ _).alloc (Nat.le_refl _) (Obj.cells (rarr ⟨KA1, kn1, kc1, CA1, 1, cc1⟩ aR) 30)))
  clear HKS
  have CE := Lib.hid ((BE.out.step' hb1).alloc (BE.out.step' hb1).size (Obj.cells (rarr ⟨KA1, kn1, kc1, CA1, 1, cc1⟩ aR) 30))
  have CR1 := Lib.hid (hr1.alloc (Obj.cells (rarr ⟨KA1, kn1, kc1, CA1, 1, cc1⟩ aR) 30))
  have R1 : Hid (Blk (w2.alloc (Obj.cells (rarr ⟨KA1, kn1, kc1, CA1, 1, cc1⟩ aR) 30)) w2.heap.size 30 (rarr ⟨KA1, kn1, kc1, CA1, 1, cc1⟩ aR)) := Blk.new_at rfl
  clear hb1 hr1 HN B0 B1 B2 BE
  go_upto_region 3 with fail
  change (Code.region 3 _ _).wp _ _ _ (w2.alloc (Obj.cells (rarr ⟨KA1, kn1, kc1, CA1, 1, cc1⟩ aR) 30))
  generalize w2.alloc (Obj.cells (rarr ⟨KA1, kn1, kc1, CA1, 1, cc1⟩ aR) 30) = w3 at *
  generalize w2.heap.size = g1 at *
  have hS := split_any aR ⟨KA1, kn1, kc1, CA1, 1, cc1⟩ aM w3 CR1.out
  rw [aw_split] at hS
  have HS := Lib.hid hS
  clear hS
  obtain ⟨q0, q1, q2, q3, q4, q5, qz⟩ := blk_ro R1.out
  simp only at q1 q5
  go_wp2_with fail
  clear q0 q1 q2 q3 q4 q5 qz
  refine HS.out.mono ?_
  rintro e w4 ⟨⟨KA2, kn2, kc2, CA2, cn2, cc2⟩, rfl, hr2, hb2⟩
  replace hr2 : RR w4 ⟨KA2, kn2, kc2, CA2, cn2, cc2⟩ aS := hr2
  obtain rfl : cn2 = 2 := hr2.cs.ln
  have D2 := Lib.hid ((C2.out.step hb2).alloc (Obj.cells (rarr ⟨KA2, kn2, kc2, CA2, 2, cc2⟩ aS) 30))
  have DK := Lib.hid ((CK.out.step hb2).step ((Below.refl _ _).alloc (Nat.le_refl _) (Obj.cells (rarr ⟨KA2, kn2, kc2, CA2, 2, cc2⟩ aS) 30)))
  clear CK
  have DE := Lib.hid ((CE.out.step' hb2).alloc (CE.out.step' hb2).size (Obj.cells (rarr ⟨KA2, kn2, kc2, CA2, 2, cc2⟩ aS) 30))
  have DR1 := Lib.hid ((R1.out.step hb2).alloc (Obj.cells (rarr ⟨KA2, kn2, kc2, CA2, 2, cc2⟩ aS) 30))
  have DR2 := Lib.hid (hr2.alloc (Obj.cells (rarr ⟨KA2, kn2, kc2, CA2, 2, cc2⟩ aS) 30))
  have R2 : Hid (Blk (w4.alloc (Obj.cells (rarr ⟨KA2, kn2, kc2, CA2, 2, cc2⟩ aS) 30)) w4.heap.size 30 (rarr ⟨KA2, kn2, kc2, CA2, 2, cc2⟩ aS)) := Blk.new_at rfl
  clear hb2 hr2 HS C2 CE CR1 R1
  go_upto_region 4 with fail
  change (Code.region 4 _ _).wp _ _ _ (w4.alloc (Obj.cells (rarr ⟨KA2, kn2, kc2, CA2, 2, cc2⟩ aS) 30))
  generalize w4.alloc (Obj.cells (rarr ⟨KA2, kn2, kc2, CA2, 2, cc2⟩ aS) 30) = w5 at *
  generalize w4.heap.size = g2 at *
  have hG := give_any aS ⟨KA2, kn2, kc2, CA2, 2, cc2⟩ aM 1 w5 DR2.out
  rw [aw_give] at hG
  have HG := Lib.hid hG
  clear hG
  obtain ⟨q0, q1, q2, q3, q4, q5, qz⟩ := blk_ro R2.out
  simp only at q1 q5
  go_wp2_with fail
  clear q0 q1 q2 q3 q4 q5 qz
  refine HG.out.mono ?_
  rintro e w6 ⟨⟨KA3, kn3, kc3, CA3, cn3, cc3⟩, rfl, hr3, hb3⟩
  replace hr3 : RR w6 ⟨KA3, kn3, kc3, CA3, cn3, cc3⟩ aG := hr3
  obtain rfl : cn3 = 2 := hr3.cs.ln
  have E2 := Lib.hid ((D2.out.step hb3).alloc (Obj.cells (rarr ⟨KA3, kn3, kc3, CA3, 2, cc3⟩ aG) 30))
  have EK := Lib.hid ((DK.out.step hb3).step ((Below.refl _ _).alloc (Nat.le_refl _) (Obj.cells (rarr ⟨KA3, kn3, kc3, CA3, 2, cc3⟩ aG) 30)))
  clear DK
  have EE := Lib.hid ((DE.out.step' hb3).alloc (DE.out.step' hb3).size (Obj.cells (rarr ⟨KA3, kn3, kc3, CA3, 2, cc3⟩ aG) 30))
  have ER1 := Lib.hid ((DR1.out.step hb3).alloc (Obj.cells (rarr ⟨KA3, kn3, kc3, CA3, 2, cc3⟩ aG) 30))
  have ES := Lib.hid ((R2.out.step hb3).alloc (Obj.cells (rarr ⟨KA3, kn3, kc3, CA3, 2, cc3⟩ aG) 30))
  have ERS := Lib.hid ((DR2.out.step hb3).alloc (Obj.cells (rarr ⟨KA3, kn3, kc3, CA3, 2, cc3⟩ aG) 30))
  have ERG := Lib.hid (hr3.alloc (Obj.cells (rarr ⟨KA3, kn3, kc3, CA3, 2, cc3⟩ aG) 30))
  have R3 : Hid (Blk (w6.alloc (Obj.cells (rarr ⟨KA3, kn3, kc3, CA3, 2, cc3⟩ aG) 30)) w6.heap.size 30 (rarr ⟨KA3, kn3, kc3, CA3, 2, cc3⟩ aG)) := Blk.new_at rfl
  clear hb3 hr3 HG D2 DE DR1 DR2 R2
  go_upto_region 5 with fail
  change (Code.region 5 _ _).wp _ _ _ (w6.alloc (Obj.cells (rarr ⟨KA3, kn3, kc3, CA3, 2, cc3⟩ aG) 30))
  generalize w6.alloc (Obj.cells (rarr ⟨KA3, kn3, kc3, CA3, 2, cc3⟩ aG) 30) = w7 at *
  generalize w6.heap.size = g3 at *
  have hJ := join_any aS ⟨KA2, kn2, kc2, CA2, 2, cc2⟩ aM w7 ERS.out
  rw [aw_join] at hJ
  have HJ := Lib.hid hJ
  clear hJ
  obtain ⟨q0, q1, q2, q3, q4, q5, qz⟩ := blk_ro ES.out
  simp only at q1 q5
  go_wp2_with fail
  clear q0 q1 q2 q3 q4 q5 qz
  refine HJ.out.mono ?_
  rintro e w8 ⟨⟨KA4, kn4, kc4, CA4, cn4, cc4⟩, rfl, hr4, hb4⟩
  replace hr4 : RR w8 ⟨KA4, kn4, kc4, CA4, cn4, cc4⟩ aJ := hr4
  obtain rfl : cn4 = 1 := hr4.cs.ln
  have F2 := Lib.hid ((E2.out.step hb4).alloc (Obj.cells (rarr ⟨KA4, kn4, kc4, CA4, 1, cc4⟩ aJ) 30))
  have FK := Lib.hid ((EK.out.step hb4).step ((Below.refl _ _).alloc (Nat.le_refl _) (Obj.cells (rarr ⟨KA4, kn4, kc4, CA4, 1, cc4⟩ aJ) 30)))
  clear EK
  have FE := Lib.hid ((EE.out.step' hb4).alloc (EE.out.step' hb4).size (Obj.cells (rarr ⟨KA4, kn4, kc4, CA4, 1, cc4⟩ aJ) 30))
  have FR1 := Lib.hid ((ER1.out.step hb4).alloc (Obj.cells (rarr ⟨KA4, kn4, kc4, CA4, 1, cc4⟩ aJ) 30))
  have FS := Lib.hid ((ES.out.step hb4).alloc (Obj.cells (rarr ⟨KA4, kn4, kc4, CA4, 1, cc4⟩ aJ) 30))
  have FRS := Lib.hid ((ERS.out.step hb4).alloc (Obj.cells (rarr ⟨KA4, kn4, kc4, CA4, 1, cc4⟩ aJ) 30))
  have FG := Lib.hid ((R3.out.step hb4).alloc (Obj.cells (rarr ⟨KA4, kn4, kc4, CA4, 1, cc4⟩ aJ) 30))
  have FRG := Lib.hid ((ERG.out.step hb4).alloc (Obj.cells (rarr ⟨KA4, kn4, kc4, CA4, 1, cc4⟩ aJ) 30))
  have R4 : Hid (Blk (w8.alloc (Obj.cells (rarr ⟨KA4, kn4, kc4, CA4, 1, cc4⟩ aJ) 30)) w8.heap.size 30 (rarr ⟨KA4, kn4, kc4, CA4, 1, cc4⟩ aJ)) := Blk.new_at rfl
  clear hb4 hr4 HJ E2 EE ER1 ES ERS ERG R3
  go_upto_region 6 with fail
  change (Code.region 6 _ _).wp _ _ _ (w8.alloc (Obj.cells (rarr ⟨KA4, kn4, kc4, CA4, 1, cc4⟩ aJ) 30))
  generalize w8.alloc (Obj.cells (rarr ⟨KA4, kn4, kc4, CA4, 1, cc4⟩ aJ) 30) = w9 at *
  generalize w8.heap.size = g4 at *
  have a5 : w9.cell? ⟨g1, 5, none⟩ = some (.slice CA1 1 cc1) := (blk_ro FR1.out).2.2.2.2.2.1
  have s5 : w9.cell? ⟨g2, 5, none⟩ = some (.slice CA2 2 cc2) := (blk_ro FS.out).2.2.2.2.2.1
  have d5 : w9.cell? ⟨g4, 5, none⟩ = some (.slice CA4 1 cc4) := (blk_ro R4.out).2.2.2.2.2.1
  have a4 : w9.cell? ⟨g1, 4, none⟩ = some (.int .i64 1) := (blk_ro FR1.out).2.2.2.2.1
  have s4 : w9.cell? ⟨g2, 4, none⟩ = some (.int .i64 2) := (blk_ro FS.out).2.2.2.2.1
  obtain ⟨b2, off2, x, hA, hbl2, hx, l0, _, _, _, _⟩ := FRS.out.cs.sr.at5 (i := 1) (by show 1 < 2; omega)
  simp only at hA
  subst hA
  have hx' : x = ⟨aM, ByteArray.empty, 0, 2, false⟩ := (Option.some.inj hx).symm
  subst hx'
  simp only [Nat.one_mul] at l0
  clear hx
  obtain ⟨q0, q1, q2, q3, _, _, qz⟩ := blk_ro FS.out
  simp only at q1
  have hFI := find_any aS ⟨KA2, kn2, kc2, some ⟨b2, off2, none⟩, 2, cc2⟩ aM w9 FRS.out
  rw [aw_find] at hFI
  have HFI := Lib.hid hFI
  clear hFI
  go_wp2_with fail
  clear a5 s5 d5 a4 s4 l0 q0 q1 q2 q3 qz
  refine HFI.out.mono ?_
  rintro e w10 ⟨rfl, hb5⟩
  obtain ⟨b3, off3, x, hA, hbl3, hx, _, _, _, m3, _⟩ := FRG.out.cs.sr.at5 (i := 0) (by show 0 < 2; omega)
  simp only at hA
  subst hA
  have hx' : x = ⟨ByteArray.empty, aM, 0, 3, false⟩ := (Option.some.inj hx).symm
  subst hx'
  clear hx
  obtain ⟨b4, off4, x, hA, _, hx, _, _, n2, n3, _⟩ := FRG.out.cs.sr.at5 (i := 1) (by show 1 < 2; omega)
  simp only at hA
  injection hA with hA
  injection hA with hA1 hA2
  subst hA1 hA2
  have hx' : x = ⟨aM, ByteArray.empty, 1, 3, false⟩ := (Option.some.inj hx).symm
  subst hx'
  clear hx
  have bc := fun o => hb5.cell (p := ⟨b3, o, none⟩) hbl3
  replace m3 := (bc _).trans m3
  replace n2 := (bc _).trans n2
  replace n3 := (bc _).trans n3
  simp only [Nat.zero_mul, Nat.add_zero, Nat.one_mul] at m3 n2 n3
  have GG := Lib.hid (FG.out.step hb5)
  have GJ := Lib.hid (R4.out.step hb5)
  have G2 := Lib.hid (F2.out.step hb5)
  have GE := Lib.hid (FE.out.step' hb5)
  have GK := Lib.hid (FK.out.step hb5)
  have e5 : w10.cell? ⟨g3, 5, none⟩ = some (.slice (some ⟨b3, off3, none⟩) 2 cc3) := (blk_ro GG.out).2.2.2.2.2.1
  have f4 : w10.cell? ⟨g4, 4, none⟩ = some (.int .i64 3) := (blk_ro GJ.out).2.2.2.2.1
  clear hb5 HFI bc FR1 FS FRS FG FRG R4 F2 FE FK
  have HST := Lib.hid (st4 (g := w10.heap.size) (w := w10.alloc (Obj.cells #[.string aA, .string aC, .string aB, .string aA] 9)) (Blk.new_at rfl) (by intro s hs; simp at hs; rcases hs with rfl | rfl | rfl | rfl <;> decide))
  have hM := middle_any [aA, aC, aB, aA] _ _ _ _ HST.out
  rw [aw_mid] at hM
  have HM := Lib.hid hM
  have HBA := Lib.hid ((Below.refl w10.heap.size w10).alloc (Nat.le_refl _) (Obj.cells #[.string aA, .string aC, .string aB, .string aA] 9))
  clear hM
  go_wp2_with fail
  clear m3 n2 n3 e5 f4
  refine HM.out.mono ?_
  rintro e w11 ⟨rfl, hb6⟩
  have L2 := Lib.hid ((G2.out.step HBA.out).step hb6)
  have LE := Lib.hid ((GE.out.step' HBA.out).step' hb6)
  have LK := Lib.hid ((GK.out.step HBA.out).step hb6)
  have k0 := L2.out.cell 0
  have k1 := L2.out.cell 1
  simp at k0 k1
  have hV := valid49_any ⟨aC, aK, false, 1, 1, []⟩ ⟨some ⟨w.heap.size + 1, 0, none⟩, 1, 1, none, 0, 0⟩ w11 (HT.out.step LE.out) ⟨by show aC.size ≤ reach; decide, LK.out, CS.nil⟩
  rw [aw_form] at hV
  have HV := Lib.hid hV
  clear hV hb6 HBA HM HST G2 GE GK GG GJ
  go_wp2_with fail
  clear k0 k1
  refine HV.out.mono ?_
  rintro e w12 ⟨rfl, hb7⟩
  go_wp2_with fail
  go_ret
  exact ⟨rfl, LE.out.step' hb7⟩

end Go.Proofs.YtgcklgkhdokchaaDoor
