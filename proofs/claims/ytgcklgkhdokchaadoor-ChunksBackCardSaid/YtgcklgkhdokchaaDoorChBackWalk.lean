/- The walk of ChunksBack. Printed by gen_chback.py. -/
import Derived.Test.YtgcklgkhdokchaaDoorChAwake
import Derived.Test.YtgcklgkhdokchaaDoorChLawA
import Derived.Test.YtgcklgkhdokchaaDoorChRefValid
import Derived.Test.YtgcklgkhdokchaaDoorValTake
namespace Go.Proofs.YtgcklgkhdokchaaDoor
open Go.RowKit

/-- Give at the beginning of a chunk -/
theorem give_errs {R : Ro} {z : Int} (h : VR R) (hv : R.ver ≤ 1152921504606846976) {i : Nat} {c : Ch} (hi : R.cs[i]? = some c) :
    (giveR R c.lo z).2 = 1 ∨ (giveR R c.lo z).2 = 23 ∨ ((giveR R c.lo z).2 = 0 ∧ verR c.sh (giveR R c.lo z).1.cs ≠ verR c.sh R.cs ∧ verR z (giveR R c.lo z).1.cs = (giveR R c.lo z).1.ver) := by
  have hbg : begB c.lo c = true := by unfold begB; simp
  have hix := idx_beg h.cn hi hbg
  rcases give_ways (key := c.lo) (z := z) h hv with ⟨h1, _⟩ | ⟨i', c', hi', hlo, z0, z8, hne, hju, hG⟩
  · unfold giveR at h1 ⊢
    rw [hix] at h1 ⊢
    rw [if_neg (by omega)] at h1 ⊢
    split
    · exact .inl rfl
    · rename_i h2
      rw [if_neg h2, Int.toNat_natCast, hi] at h1
      simp only [Int.toNat_natCast, hi]
      simp only at h1
      split
      · exact .inr (.inl rfl)
      · rename_i h3
        rw [if_neg h3] at h1
        exact absurd rfl h1
  · have hb' : begB c.lo c' = true := by unfold begB; rw [hlo]; simp
    obtain rfl := h.cn.un c.lo hi hi' (begB_in hbg (h.cn.lt c (List.mem_of_getElem? hi))) (begB_in hb' (h.cn.lt c' (List.mem_of_getElem? hi')))
    rw [hi] at hi'
    obtain rfl := Option.some.inj hi'
    obtain ⟨g1, g2⟩ := give_vers h hi z0 z8 hne
    rw [hG]
    exact .inr (.inr ⟨rfl, g1, g2⟩)
theorem sees_b {l : List Ch} (h : Cn (some []) none l) (kk : ByteArray) : ∃ (i : Nat) (c : Ch), l[i]? = some c ∧ idxI (inB kk) l = (i : Nat) := by
  obtain ⟨c, hc, hk⟩ := Cn.ex kk h (bl_nil _) trivial
  obtain ⟨i, hi⟩ := List.mem_iff_getElem?.1 hc
  exact ⟨i, c, hi, idxI_lt hi hk fun j d hj hd => h.un kk hj hi hd hk⟩

set_option maxRecDepth 100000 in
set_option maxHeartbeats 1000000 in
theorem chunksBack_walk (R : Ro) (a : RA) (k : Int) (key : ByteArray) (z : Int) (j : Bool) (w : World) (hT : Tabs w) (h : RR w a R) :
    Calls Tryd.prog 5 #[rval a R, .agg #[.int .i64 k, .string key, .int .i64 z, .bool j]] w fun e w' => e = .returned (.bool true) ∧ Below w.heap.size w w' := by
  obtain ⟨KA, kn, kc, CA, cn, cc⟩ := a
  have HT := Lib.hid hT
  have H := Lib.hid h
  clear hT h
  have B0 : Hid (Blk ((w.alloc (Obj.cells (rarr ⟨KA, kn, kc, CA, cn, cc⟩ R) 30)).alloc (Obj.cells #[.int .i64 k, .string key, .int .i64 z, .bool j] 40)) w.heap.size 30 (rarr ⟨KA, kn, kc, CA, cn, cc⟩ R)) := (Blk.new_at rfl).alloc _
  have B1 : Hid (Blk ((w.alloc (Obj.cells (rarr ⟨KA, kn, kc, CA, cn, cc⟩ R) 30)).alloc (Obj.cells #[.int .i64 k, .string key, .int .i64 z, .bool j] 40)) (w.heap.size + 1) 40 #[.int .i64 k, .string key, .int .i64 z, .bool j]) := Blk.new_at (by simp)
  have BE : Hid (Below w.heap.size w ((w.alloc (Obj.cells (rarr ⟨KA, kn, kc, CA, cn, cc⟩ R) 30)).alloc (Obj.cells #[.int .i64 k, .string key, .int .i64 z, .bool j] 40))) := ((Below.refl _ _).alloc (Nat.le_refl _) _).alloc (by simp) _
  go_enter Tryd.func5, Tryd.ntmps5
  go_upto_region 1 with fail
  change (Code.region 1 _ _).wp _ _ _ ((w.alloc (Obj.cells (rarr ⟨KA, kn, kc, CA, cn, cc⟩ R) 30)).alloc (Obj.cells #[.int .i64 k, .string key, .int .i64 z, .bool j] 40))
  generalize (w.alloc (Obj.cells (rarr ⟨KA, kn, kc, CA, cn, cc⟩ R) 30)).alloc (Obj.cells #[.int .i64 k, .string key, .int .i64 z, .bool j] 40) = wa at *
  obtain ⟨q0, q1, q2, q3, q4, q5, qz⟩ := blk_ro B0.out
  simp only at q1 q5
  have k0 := B1.out.cell 0
  have k1 := B1.out.cell 1
  have k2 := B1.out.cell 2
  have k3 := B1.out.cell 3
  simp at k0 k1 k2 k3
  have hfw := few_any R ⟨KA, kn, kc, CA, cn, cc⟩ wa (H.out.step BE.out)
  cases hF : fewB R
  · rw [hF] at hfw
    have HFW := Lib.hid hfw
    clear hfw
    go_wp2_with fail
    refine HFW.out.mono ?_
    rintro e w1 ⟨rfl, hb⟩
    have CE := Lib.hid (BE.out.step' hb)
    clear hb q0 q1 q2 q3 q4 q5 qz k0 k1 k2 k3
    go_wp2_with fail
    refine (awake49_any w1 (HT.out.step CE.out)).mono ?_
    rintro e wz0 ⟨rfl, hbz⟩
    go_wp2_with fail
    go_ret
    exact ⟨rfl, CE.out.step' hbz⟩
  rw [hF] at hfw
  have HFW := Lib.hid hfw
  clear hfw
  go_wp2_with fail
  clear q0 q1 q2 q3 q4 q5 qz k0 k1 k2 k3
  refine HFW.out.mono ?_
  rintro e w1 ⟨rfl, hb⟩
  have C0 := Lib.hid (B0.out.step hb)
  have C1 := Lib.hid (B1.out.step hb)
  have CE := Lib.hid (BE.out.step' hb)
  clear hb HFW B0 B1 BE
  obtain ⟨q0, q1, q2, q3, q4, q5, qz⟩ := blk_ro C0.out
  simp only at q1 q5
  have k0 := C1.out.cell 0
  have k1 := C1.out.cell 1
  have k2 := C1.out.cell 2
  have k3 := C1.out.cell 3
  simp at k0 k1 k2 k3
  have HVL := Lib.hid (rvalid49_any R ⟨KA, kn, kc, CA, cn, cc⟩ w1 (H.out.step CE.out))
  by_cases hv0 : routE R = 0
  rotate_left
  · have hv1 : (routE R != 0) = true := by simpa using hv0
    go_wp2_with fail
    refine HVL.out.mono ?_
    rintro e w2 ⟨rfl, hb⟩
    have DE := Lib.hid (CE.out.step' hb)
    clear hb HVL q0 q1 q2 q3 q4 q5 qz k0 k1 k2 k3
    go_wp2_with fail
    refine (awake49_any w2 (HT.out.step DE.out)).mono ?_
    rintro e wz1 ⟨rfl, hbz⟩
    go_wp2_with fail
    go_ret
    exact ⟨rfl, DE.out.step' hbz⟩
  have HVR := Lib.hid ((routE_iff R).1 hv0)
  go_wp2_with fail
  clear q0 q1 q2 q3 q4 q5 qz k0 k1 k2 k3
  refine HVL.out.mono ?_
  rintro e w2 ⟨rfl, hb⟩
  rw [hv0]
  clear hv0
  have D0 := Lib.hid (C0.out.step hb)
  have D1 := Lib.hid (C1.out.step hb)
  have DE := Lib.hid (CE.out.step' hb)
  clear hb HVL C0 C1 CE
  obtain ⟨q0, q1, q2, q3, q4, q5, qz⟩ := blk_ro D0.out
  simp only at q1 q5
  have k0 := D1.out.cell 0
  have k1 := D1.out.cell 1
  have k2 := D1.out.cell 2
  have k3 := D1.out.cell 3
  simp at k0 k1 k2 k3
  by_cases hvr : 1152921504606846976 < R.ver
  · go_wp2_with fail
    clear q0 q1 q2 q3 q4 q5 qz k0 k1 k2 k3
    refine (awake49_any w2 (HT.out.step DE.out)).mono ?_
    rintro e wz2 ⟨rfl, hbz⟩
    go_wp2_with fail
    go_ret
    exact ⟨rfl, DE.out.step' hbz⟩
  have HVV : Hid (R.ver ≤ 1152921504606846976) := Int.not_lt.1 hvr
  go_upto_region 3 with fail
  clear hvr
  obtain ⟨i, c, hi, hix⟩ := sees_b HVR.out.cn key
  have HLT : Hid (i < cn) := by have h1 : cn = R.cs.length := H.out.cs.ln; have := getElem?_lt hi; unfold Hid; omega
  have HI := Lib.hid hi
  have HIX := Lib.hid hix
  clear hi hix
  have hsp := split_any R ⟨KA, kn, kc, CA, cn, cc⟩ key w2 (H.out.step DE.out)
  have hbl := back_law (key := key) HVR.out HVV.out
  obtain ⟨rr, hrr⟩ : ∃ rr, rr = splitR R key := ⟨_, rfl⟩
  rw [← hrr] at hsp hbl
  have HSP := Lib.hid hsp
  have HBL := Lib.hid hbl
  clear hsp hbl hrr
  go_wp2_with fail
  clear q0 q1 q2 q3 q4 q5 qz k0 k1 k2 k3
  refine HSP.out.mono ?_
  rintro e w3 ⟨⟨KA1, kn1, kc1, CA1, cn1, cc1⟩, rfl, hr1, hb1⟩
  obtain ⟨S, er⟩ := rr
  simp only at hr1
  have E0 := Lib.hid ((D0.out.step hb1).alloc (Obj.cells (rarr ⟨KA1, kn1, kc1, CA1, cn1, cc1⟩ S) 30))
  have E1 := Lib.hid ((D1.out.step hb1).alloc (Obj.cells (rarr ⟨KA1, kn1, kc1, CA1, cn1, cc1⟩ S) 30))
  have EE := Lib.hid ((DE.out.step' hb1).alloc (DE.out.step' hb1).size (Obj.cells (rarr ⟨KA1, kn1, kc1, CA1, cn1, cc1⟩ S) 30))
  have ER := Lib.hid (hr1.alloc (Obj.cells (rarr ⟨KA1, kn1, kc1, CA1, cn1, cc1⟩ S) 30))
  have ES : Hid (Blk (w3.alloc (Obj.cells (rarr ⟨KA1, kn1, kc1, CA1, cn1, cc1⟩ S) 30)) w3.heap.size 30 (rarr ⟨KA1, kn1, kc1, CA1, cn1, cc1⟩ S)) := Blk.new_at rfl
  clear hb1 hr1 HSP D0 D1 DE
  go_upto_region 4 with fail
  change (Code.region 4 _ _).wp _ _ _ (w3.alloc (Obj.cells (rarr ⟨KA1, kn1, kc1, CA1, cn1, cc1⟩ S) 30))
  generalize w3.alloc (Obj.cells (rarr ⟨KA1, kn1, kc1, CA1, cn1, cc1⟩ S) 30) = wt at *
  generalize w3.heap.size = g1 at *
  by_cases her : er = 0
  rotate_left
  · have herb : (er == 0) = false := by simpa using her
    have T0 := E0
    have T1 := E1
    have TE := EE
    clear E0 E1 EE ER ES HBL
    go_upto_region 14 with fail
    obtain ⟨q0, q1, q2, q3, q4, q5, qz⟩ := blk_ro T0.out
    simp only at q1 q5
    have k0 := T1.out.cell 0
    have k1 := T1.out.cell 1
    have k2 := T1.out.cell 2
    have k3 := T1.out.cell 3
    simp at k0 k1 k2 k3
    have hfd := find_any R ⟨KA, kn, kc, CA, cn, cc⟩ key wt (H.out.step TE.out)
    rw [HIX.out] at hfd
    have HFD := Lib.hid hfd
    clear hfd
    go_wp2_with fail
    clear q0 q1 q2 q3 q4 q5 qz k0 k1 k2 k3
    refine HFD.out.mono ?_
    rintro e u1 ⟨rfl, hb1⟩
    have U0 := Lib.hid (T0.out.step hb1)
    have U1 := Lib.hid (T1.out.step hb1)
    have UE := Lib.hid (TE.out.step' hb1)
    clear hb1 HFD T0 T1 TE
    have i0 : (0 : Int) ≤ (i : Int) := by omega
    have i1 : (i : Int) < (cn : Int) := by have := HLT.out; omega
    go_upto_region 17 with fail
    obtain ⟨b, off, x, hA, hb, hx, e0, e1, e2, e3, e4⟩ := H.out.cs.sr.at5 HLT.out
    obtain rfl : x = c := Option.some.inj (hx.symm.trans HI.out)
    simp only at hA
    subst hA
    replace e0 := (UE.out.cell (p := ⟨b, off + i * 5, none⟩) hb).trans e0
    replace e2 := (UE.out.cell (p := ⟨b, off + i * 5 + 2, none⟩) hb).trans e2
    clear e1 e3 e4 hx
    obtain ⟨q0, q1, q2, q3, q4, q5, qz⟩ := blk_ro U0.out
    simp only at q1 q5
    have k0 := U1.out.cell 0
    have k1 := U1.out.cell 1
    have k2 := U1.out.cell 2
    have k3 := U1.out.cell 3
    simp at k0 k1 k2 k3
    obtain ⟨gg, hgg⟩ : ∃ gg, gg = giveR R x.lo z := ⟨_, rfl⟩
    have hpg := path_of (giveR_ks R x.lo z) HVR.out.path
    rw [← hgg] at hpg
    have HGG := Lib.hid hgg
    have HPG := Lib.hid hpg
    have HGV : Hid (∀ wq, RR wq ⟨KA, kn, kc, some ⟨b, off, none⟩, cn, cc⟩ R → Calls Tryd.prog 19 #[rval ⟨KA, kn, kc, some ⟨b, off, none⟩, cn, cc⟩ R, .string x.lo, .int .i64 z] wq (RouOk gg wq)) := Lib.hid fun wq hq => by rw [hgg]; exact give_any R ⟨KA, kn, kc, some ⟨b, off, none⟩, cn, cc⟩ x.lo z wq hq
    clear hgg hpg
    have HR1 := Lib.hid (H.out.step UE.out)
    have lb0 := U0.out.lt
    have lb1 := U1.out.lt
    have lbb : b < u1.heap.size := Nat.lt_of_lt_of_le hb UE.out.size
    have KC : Hid (∀ w' : World, (∀ g, g < u1.heap.size → w'.heap[g]? = u1.heap[g]?) → w'.cell? ⟨w.heap.size, 0, none⟩ = some (.string R.sp) ∧ w'.cell? ⟨w.heap.size, 1, none⟩ = some (.slice KA kn kc) ∧ w'.cell? ⟨w.heap.size, 2, none⟩ = some (.bool R.ha) ∧ w'.cell? ⟨w.heap.size, 3, none⟩ = some (.int .i64 R.ep) ∧ w'.cell? ⟨w.heap.size, 4, none⟩ = some (.int .i64 R.ver) ∧ w'.cell? ⟨w.heap.size, 5, none⟩ = some (.slice (some ⟨b, off, none⟩) cn cc) ∧ w'.cell? ⟨w.heap.size + 1, 2, none⟩ = some (.int .i64 z) ∧ w'.cell? ⟨b, off + i * 5, none⟩ = some (.string x.lo)) := Lib.hid fun w' hk => by
      have p0 : ∀ o, w'.cell? ⟨w.heap.size, o, none⟩ = u1.cell? ⟨w.heap.size, o, none⟩ := fun o => World.cell?_of_block (w := u1) (a := ⟨w.heap.size, o, none⟩) (hk _ lb0)
      have p1 : ∀ o, w'.cell? ⟨w.heap.size + 1, o, none⟩ = u1.cell? ⟨w.heap.size + 1, o, none⟩ := fun o => World.cell?_of_block (w := u1) (a := ⟨w.heap.size + 1, o, none⟩) (hk _ lb1)
      have p2 : ∀ o, w'.cell? ⟨b, o, none⟩ = u1.cell? ⟨b, o, none⟩ := fun o => World.cell?_of_block (w := u1) (a := ⟨b, o, none⟩) (hk _ lbb)
      exact ⟨(p0 _).trans q0, (p0 _).trans q1, (p0 _).trans q2, (p0 _).trans q3, (p0 _).trans q4, (p0 _).trans q5, (p1 _).trans k2, (p2 _).trans e0⟩
    go_cut [13, 14] (fun v13 v14 wx => ∃ (g9 : Nat) (a9 : RA), v13 = .pointer (some ⟨g9, 0, none⟩) ∧ v14 = .int .i64 gg.2 ∧ Blk wx g9 30 (rarr a9 gg.1) ∧ RR wx a9 gg.1 ∧ u1.heap.size ≤ g9 ∧ Below u1.heap.size u1 wx)
    case first =>
      refine wp_region_noPanic ?_
      refine wp_region_held_drew (S := (fun w' => w'.cell? ⟨w.heap.size, 0, none⟩ = some (.string R.sp) ∧ w'.cell? ⟨w.heap.size, 1, none⟩ = some (.slice KA kn kc) ∧ w'.cell? ⟨w.heap.size, 2, none⟩ = some (.bool R.ha) ∧ w'.cell? ⟨w.heap.size, 3, none⟩ = some (.int .i64 R.ep) ∧ w'.cell? ⟨w.heap.size, 4, none⟩ = some (.int .i64 R.ver) ∧ w'.cell? ⟨w.heap.size, 5, none⟩ = some (.slice (some ⟨b, off, none⟩) cn cc) ∧ w'.cell? ⟨w.heap.size + 1, 2, none⟩ = some (.int .i64 z) ∧ w'.cell? ⟨b, off + i * 5, none⟩ = some (.string x.lo))) (by kernel_rfl) ?_ (fun hHeld => ?_)
      · (try dsimp only); exact KC.out _ (fun g hg => rfl)
      have B : Hid (Below u1.heap.size u1 u1.drew) := Lib.hid ((Below.refl u1.heap.size u1).drew)
      generalize u1.drew = W0 at *
      refine wpAnyH_take (i := 0) (v := ?_) (take_at rfl) (by kernel_rfl) (by kernel_rfl) (by kernel_rfl) (fun _ _ _ h => h) (Or.inl ⟨by rfl, ?_⟩) (by assumption) ?_
      rotate_left
      · intro w' hSw; (try dsimp only at hSw); go_simp; (try with_reducible rfl)
      (try simp only [Act.put, List.setIfInBounds_toArray, List.set_cons_zero, List.set_cons_succ])
      refine wpAnyH_take (i := 1) (v := ?_) (take_at rfl) (by kernel_rfl) (by kernel_rfl) (by kernel_rfl) (fun _ _ _ h => h) (Or.inl ⟨by rfl, ?_⟩) (by assumption) ?_
      rotate_left
      · intro w' hSw; (try dsimp only at hSw); go_simp; (try with_reducible rfl)
      (try simp only [Act.put, List.setIfInBounds_toArray, List.set_cons_zero, List.set_cons_succ])
      refine wpAnyH_take (i := 2) (v := ?_) (take_at rfl) (by kernel_rfl) (by kernel_rfl) (by kernel_rfl) (fun _ _ _ h => h) (Or.inl ⟨by rfl, ?_⟩) (by assumption) ?_
      rotate_left
      · intro w' hSw; (try dsimp only at hSw); go_simp; (try with_reducible rfl)
      (try simp only [Act.put, List.setIfInBounds_toArray, List.set_cons_zero, List.set_cons_succ])
      refine wpAnyH_take (i := 3) (v := ?_) (take_at rfl) (by kernel_rfl) (by kernel_rfl) (by kernel_rfl) (fun _ _ _ h => h) (Or.inl ⟨by rfl, ?_⟩) (by assumption) ?_
      rotate_left
      · intro w' hSw; (try dsimp only at hSw); go_simp; (try with_reducible rfl)
      (try simp only [Act.put, List.setIfInBounds_toArray, List.set_cons_zero, List.set_cons_succ])
      refine wpAnyH_take (i := 4) (v := ?_) (take_at rfl) (by kernel_rfl) (by kernel_rfl) (by kernel_rfl) (fun _ _ _ h => h) (Or.inl ⟨by rfl, ?_⟩) (by assumption) ?_
      rotate_left
      · intro w' hSw; (try dsimp only at hSw); go_simp; (try with_reducible rfl)
      (try simp only [Act.put, List.setIfInBounds_toArray, List.set_cons_zero, List.set_cons_succ])
      refine wpAnyH_take (i := 5) (v := ?_) (take_at rfl) (by kernel_rfl) (by kernel_rfl) (by kernel_rfl) (fun _ _ _ h => h) (Or.inl ⟨by rfl, ?_⟩) (by assumption) ?_
      rotate_left
      · intro w' hSw; (try dsimp only at hSw); go_simp; (try with_reducible rfl)
      (try simp only [Act.put, List.setIfInBounds_toArray, List.set_cons_zero, List.set_cons_succ])
      refine wpAnyH_take (i := 6) (v := ?_) (take_at rfl) (by kernel_rfl) (by kernel_rfl) (by kernel_rfl) (fun _ _ _ h => h) (Or.inl ⟨by rfl, ?_⟩) (by assumption) ?_
      rotate_left
      · intro w' hSw; (try dsimp only at hSw); go_simp; (try with_reducible rfl)
      (try simp only [Act.put, List.setIfInBounds_toArray, List.set_cons_zero, List.set_cons_succ])
      refine wpAnyH_take (i := 7) (v := ?_) (take_at rfl) (by kernel_rfl) (by kernel_rfl) (by kernel_rfl) (fun _ _ _ h => h) (Or.inl ⟨by rfl, ?_⟩) (by assumption) ?_
      rotate_left
      · intro w' hSw; (try dsimp only at hSw); go_simp; (try with_reducible rfl)
      (try simp only [Act.put, List.setIfInBounds_toArray, List.set_cons_zero, List.set_cons_succ])
      refine wpAnyH_take (i := 8) (v := ?_) (take_at rfl) (by kernel_rfl) (by kernel_rfl) (by kernel_rfl) (fun _ _ _ h => h) (Or.inl ⟨by rfl, ?_⟩) (by assumption) ?_
      rotate_left
      · intro w' hSw; (try dsimp only at hSw); go_simp; (try with_reducible rfl)
      (try simp only [Act.put, List.setIfInBounds_toArray, List.set_cons_zero, List.set_cons_succ])
      refine wpAnyH_ready (rs := [9, 13]) (by kernel_rfl) (by simp) ?_
      refine AllReadyH.cons (take_at rfl) (fun K hK => ?_) (AllReadyH.cons (take_at rfl) (fun K hK => ?_) AllReadyH.nil)
      · go_simp
        refine (HGV.out _ (HR1.out.step B.out)).mono ?_
        rintro e W1 ⟨⟨KA9, kn9, kc9, CA9, cn9, cc9⟩, rfl, hr, hb⟩
        have R9 := Lib.hid hr
        replace B := Lib.hid (B.out.step' hb)
        clear hb hr
        (try go_wp2_with fail)
        refine hK.out _ _ ?_ (fun hHeld2 => ?_)
        · (try dsimp only); exact KC.out _ (fun g hg => B.out.block g hg)
        clear hK K hHeld
        have hHeld := hHeld2
        clear hHeld2
        (try simp only [Act.put, List.setIfInBounds_toArray, List.set_cons_zero, List.set_cons_succ])
        refine wpAnyH_take (i := 10) (v := ?_) (take_at rfl) (by kernel_rfl) (by kernel_rfl) (by kernel_rfl) (fun _ _ _ h => h) (Or.inl ⟨by rfl, ?_⟩) (by assumption) ?_
        rotate_left
        · intro w' hSw; (try dsimp only at hSw); go_simp; (try with_reducible rfl)
        (try simp only [Act.put, List.setIfInBounds_toArray, List.set_cons_zero, List.set_cons_succ])
        refine wpAnyH_take (i := 11) (v := ?_) (take_at rfl) (by kernel_rfl) (by kernel_rfl) (by kernel_rfl) (fun _ _ _ h => h) (Or.inl ⟨by rfl, ?_⟩) (by assumption) ?_
        rotate_left
        · intro w' hSw; (try dsimp only at hSw); go_simp; (try with_reducible rfl)
        (try simp only [Act.put, List.setIfInBounds_toArray, List.set_cons_zero, List.set_cons_succ])
        refine wpAnyH_take (i := 12) (v := ?_) (take_at rfl) (by kernel_rfl) (by kernel_rfl) (by kernel_rfl) (fun _ _ _ h => h) (Or.inl ⟨by rfl, ?_⟩) (by assumption) ?_
        rotate_left
        · intro w' hSw; (try dsimp only at hSw); go_simp; (try with_reducible rfl)
        (try simp only [Act.put, List.setIfInBounds_toArray, List.set_cons_zero, List.set_cons_succ])
        refine wpAnyH_ready (rs := [13]) (by kernel_rfl) (by simp) ?_
        refine AllReadyH.cons (take_at rfl) (fun K hK => ?_) AllReadyH.nil
        go_simp
        have hg9 : u1.heap.size ≤ W1.heap.size := B.out.size
        have Q9 : Hid (Blk (W1.alloc (Obj.cells (rarr RA.zero Ro.zero) 30)) W1.heap.size 30 (rarr RA.zero Ro.zero)) := Blk.new_at rfl
        replace R9 := Lib.hid (R9.out.alloc (Obj.cells (rarr RA.zero Ro.zero) 30))
        replace B := Lib.hid (B.out.alloc B.out.size (Obj.cells (rarr RA.zero Ro.zero) 30))
        change K _ (W1.alloc (Obj.cells (rarr RA.zero Ro.zero) 30))
        generalize W1.alloc (Obj.cells (rarr RA.zero Ro.zero) 30) = W2 at *
        generalize W1.heap.size = g9 at *
        refine hK.out _ _ ?_ (fun hHeld2 => ?_)
        · (try dsimp only); exact KC.out _ (fun g hg => B.out.block g hg)
        clear hK K hHeld
        have hHeld := hHeld2
        clear hHeld2
        (try simp only [Act.put, List.setIfInBounds_toArray, List.set_cons_zero, List.set_cons_succ])
        refine wpAnyH_ready (rs := [14]) (by kernel_rfl) (by simp) ?_
        refine AllReadyH.cons (take_at rfl) (fun K hK => ?_) AllReadyH.nil
        obtain ⟨z0, z1, z2, z3, z4, z5, zz⟩ := blk_ro Q9.out
        have lq := Q9.out.lt
        go_simp
        have R9' := Lib.hid (R9.out.far HPG.out Q9.out ⟨KA9, kn9, kc9, CA9, cn9, cc9⟩ gg.1)
        have Q9' := Lib.hid (Q9.out.putR (a := ⟨KA9, kn9, kc9, CA9, cn9, cc9⟩) (R := gg.1))
        have B' := Lib.hid (below_setR B.out hg9 ⟨KA9, kn9, kc9, CA9, cn9, cc9⟩ gg.1)
        clear z0 z1 z2 z3 z4 z5 zz lq R9 Q9 B
        have R9 := R9'
        have Q9 := Q9'
        have B := B'
        clear R9' Q9' B'
        change K _ (setR W2 g9 ⟨KA9, kn9, kc9, CA9, cn9, cc9⟩ gg.1)
        generalize setR W2 g9 ⟨KA9, kn9, kc9, CA9, cn9, cc9⟩ gg.1 = W3 at *
        refine hK.out _ _ ?_ (fun hHeld2 => ?_)
        · (try dsimp only); exact KC.out _ (fun g hg => B.out.block g hg)
        clear hK K hHeld
        have hHeld := hHeld2
        clear hHeld2
        (try simp only [Act.put, List.setIfInBounds_toArray, List.set_cons_zero, List.set_cons_succ])
        refine wpAnyH_take (i := 15) (v := ?_) (take_at rfl) (by kernel_rfl) (by kernel_rfl) (by kernel_rfl) (fun _ _ _ h => h) (Or.inl ⟨by rfl, ?_⟩) (by assumption) ?_
        rotate_left
        · intro w' hSw; (try dsimp only at hSw); go_simp; (try with_reducible rfl)
        (try simp only [Act.put, List.setIfInBounds_toArray, List.set_cons_zero, List.set_cons_succ])
        refine wpAnyH_done (by kernel_rfl) ?_ _
        refine NoPanic.normal ?_
        go_wp2_with fail
        go_meet
        exact ⟨g9, ⟨KA9, kn9, kc9, CA9, cn9, cc9⟩, rfl, rfl, Q9.out, R9.out, hg9, B.out⟩
      · go_simp
        have hg9 : u1.heap.size ≤ W0.heap.size := B.out.size
        have Q9 : Hid (Blk (W0.alloc (Obj.cells (rarr RA.zero Ro.zero) 30)) W0.heap.size 30 (rarr RA.zero Ro.zero)) := Blk.new_at rfl
        replace B := Lib.hid (B.out.alloc B.out.size (Obj.cells (rarr RA.zero Ro.zero) 30))
        change K _ (W0.alloc (Obj.cells (rarr RA.zero Ro.zero) 30))
        generalize W0.alloc (Obj.cells (rarr RA.zero Ro.zero) 30) = W1 at *
        generalize W0.heap.size = g9 at *
        refine hK.out _ _ ?_ (fun hHeld2 => ?_)
        · (try dsimp only); exact KC.out _ (fun g hg => B.out.block g hg)
        clear hK K hHeld
        have hHeld := hHeld2
        clear hHeld2
        (try simp only [Act.put, List.setIfInBounds_toArray, List.set_cons_zero, List.set_cons_succ])
        refine wpAnyH_ready (rs := [9]) (by kernel_rfl) (by simp) ?_
        refine AllReadyH.cons (take_at rfl) (fun K hK => ?_) AllReadyH.nil
        go_simp
        refine (HGV.out _ (HR1.out.step B.out)).mono ?_
        rintro e W2 ⟨⟨KA9, kn9, kc9, CA9, cn9, cc9⟩, rfl, hr, hb⟩
        have R9 := Lib.hid hr
        replace Q9 := Lib.hid (Q9.out.step hb)
        replace B := Lib.hid (B.out.step' hb)
        clear hb hr
        (try go_wp2_with fail)
        refine hK.out _ _ ?_ (fun hHeld2 => ?_)
        · (try dsimp only); exact KC.out _ (fun g hg => B.out.block g hg)
        clear hK K hHeld
        have hHeld := hHeld2
        clear hHeld2
        (try simp only [Act.put, List.setIfInBounds_toArray, List.set_cons_zero, List.set_cons_succ])
        refine wpAnyH_take (i := 10) (v := ?_) (take_at rfl) (by kernel_rfl) (by kernel_rfl) (by kernel_rfl) (fun _ _ _ h => h) (Or.inl ⟨by rfl, ?_⟩) (by assumption) ?_
        rotate_left
        · intro w' hSw; (try dsimp only at hSw); go_simp; (try with_reducible rfl)
        (try simp only [Act.put, List.setIfInBounds_toArray, List.set_cons_zero, List.set_cons_succ])
        refine wpAnyH_take (i := 11) (v := ?_) (take_at rfl) (by kernel_rfl) (by kernel_rfl) (by kernel_rfl) (fun _ _ _ h => h) (Or.inl ⟨by rfl, ?_⟩) (by assumption) ?_
        rotate_left
        · intro w' hSw; (try dsimp only at hSw); go_simp; (try with_reducible rfl)
        (try simp only [Act.put, List.setIfInBounds_toArray, List.set_cons_zero, List.set_cons_succ])
        refine wpAnyH_take (i := 12) (v := ?_) (take_at rfl) (by kernel_rfl) (by kernel_rfl) (by kernel_rfl) (fun _ _ _ h => h) (Or.inl ⟨by rfl, ?_⟩) (by assumption) ?_
        rotate_left
        · intro w' hSw; (try dsimp only at hSw); go_simp; (try with_reducible rfl)
        (try simp only [Act.put, List.setIfInBounds_toArray, List.set_cons_zero, List.set_cons_succ])
        refine wpAnyH_ready (rs := [14]) (by kernel_rfl) (by simp) ?_
        refine AllReadyH.cons (take_at rfl) (fun K hK => ?_) AllReadyH.nil
        obtain ⟨z0, z1, z2, z3, z4, z5, zz⟩ := blk_ro Q9.out
        have lq := Q9.out.lt
        go_simp
        have R9' := Lib.hid (R9.out.far HPG.out Q9.out ⟨KA9, kn9, kc9, CA9, cn9, cc9⟩ gg.1)
        have Q9' := Lib.hid (Q9.out.putR (a := ⟨KA9, kn9, kc9, CA9, cn9, cc9⟩) (R := gg.1))
        have B' := Lib.hid (below_setR B.out hg9 ⟨KA9, kn9, kc9, CA9, cn9, cc9⟩ gg.1)
        clear z0 z1 z2 z3 z4 z5 zz lq R9 Q9 B
        have R9 := R9'
        have Q9 := Q9'
        have B := B'
        clear R9' Q9' B'
        change K _ (setR W2 g9 ⟨KA9, kn9, kc9, CA9, cn9, cc9⟩ gg.1)
        generalize setR W2 g9 ⟨KA9, kn9, kc9, CA9, cn9, cc9⟩ gg.1 = W3 at *
        refine hK.out _ _ ?_ (fun hHeld2 => ?_)
        · (try dsimp only); exact KC.out _ (fun g hg => B.out.block g hg)
        clear hK K hHeld
        have hHeld := hHeld2
        clear hHeld2
        (try simp only [Act.put, List.setIfInBounds_toArray, List.set_cons_zero, List.set_cons_succ])
        refine wpAnyH_take (i := 15) (v := ?_) (take_at rfl) (by kernel_rfl) (by kernel_rfl) (by kernel_rfl) (fun _ _ _ h => h) (Or.inl ⟨by rfl, ?_⟩) (by assumption) ?_
        rotate_left
        · intro w' hSw; (try dsimp only at hSw); go_simp; (try with_reducible rfl)
        (try simp only [Act.put, List.setIfInBounds_toArray, List.set_cons_zero, List.set_cons_succ])
        refine wpAnyH_done (by kernel_rfl) ?_ _
        refine NoPanic.normal ?_
        go_wp2_with fail
        go_meet
        exact ⟨g9, ⟨KA9, kn9, kc9, CA9, cn9, cc9⟩, rfl, rfl, Q9.out, R9.out, hg9, B.out⟩
    case rest =>
      obtain ⟨g9, ⟨KA9, kn9, kc9, CA9, cn9, cc9⟩, rfl, rfl, hg9, hr9, hl9, hb9⟩ := hcut
      have G0 := Lib.hid (U0.out.step hb9)
      have G1 := Lib.hid (U1.out.step hb9)
      have GE := Lib.hid (UE.out.step' hb9)
      have G9 := Lib.hid hg9
      have GR := Lib.hid hr9
      replace e2 := (hb9.cell (p := ⟨b, off + i * 5 + 2, none⟩) lbb).trans e2
      clear hg9 hr9 hb9 hl9 HGV HPG KC q0 q1 q2 q3 q4 q5 qz k0 k1 k2 k3 e0 U0 U1 UE HR1 lb0 lb1 lbb
      generalize wc = u4 at *
      obtain ⟨G, er9⟩ := gg
      simp only at G9 GR
      rcases give_errs HVR.out HVV.out HI.out (z := z) with he9 | he9 | ⟨he9, v1, v2⟩
      · rw [← HGG.out] at he9
        simp only at he9
        subst he9
        go_wp2_with fail
        refine (awake49_any u4 (HT.out.step GE.out)).mono ?_
        rintro e wz1 ⟨rfl, hbz⟩
        go_wp2_with fail
        go_ret
        exact ⟨rfl, GE.out.step' hbz⟩
      · rw [← HGG.out] at he9
        simp only at he9
        subst he9
        go_wp2_with fail
        refine (awake49_any u4 (HT.out.step GE.out)).mono ?_
        rintro e wz2 ⟨rfl, hbz⟩
        go_wp2_with fail
        go_ret
        exact ⟨rfl, GE.out.step' hbz⟩
      · rw [← HGG.out] at he9 v1 v2
        simp only at he9 v1 v2
        subst he9
        go_upto_region 20 with fail
        obtain ⟨q0, q1, q2, q3, q4, q5, qz⟩ := blk_ro G0.out
        simp only at q1 q5
        go_upto_region 21 with fail
        clear q0 q1 q2 q3 q4 q5 qz e2
        obtain ⟨q0, q1, q2, q3, q4, q5, qz⟩ := blk_ro G0.out
        obtain ⟨r0, r1, r2, r3, r4, r5, rz⟩ := blk_ro G9.out
        have k2 := G1.out.cell 2
        simp at k2
        simp only at q1 q5 r1 r5
        have P0 : ∀ q : BW u4, q.val.cell? ⟨w.heap.size, 0, none⟩ = some (.string R.sp) := fun q => q.cell q0
        have P1 : ∀ q : BW u4, q.val.cell? ⟨w.heap.size, 1, none⟩ = some (.slice KA kn kc) := fun q => q.cell q1
        have P2 : ∀ q : BW u4, q.val.cell? ⟨w.heap.size, 2, none⟩ = some (.bool R.ha) := fun q => q.cell q2
        have P3 : ∀ q : BW u4, q.val.cell? ⟨w.heap.size, 3, none⟩ = some (.int .i64 R.ep) := fun q => q.cell q3
        have P4 : ∀ q : BW u4, q.val.cell? ⟨w.heap.size, 4, none⟩ = some (.int .i64 R.ver) := fun q => q.cell q4
        have P5 : ∀ q : BW u4, q.val.cell? ⟨w.heap.size, 5, none⟩ = some (.slice (some ⟨b, off, none⟩) cn cc) := fun q => q.cell q5
        have Y2 : ∀ q : BW u4, q.val.cell? ⟨w.heap.size + 1, 2, none⟩ = some (.int .i64 z) := fun q => q.cell k2
        have O0 : ∀ q : BW u4, q.val.cell? ⟨g9, 0, none⟩ = some (.string G.sp) := fun q => q.cell r0
        have O1 : ∀ q : BW u4, q.val.cell? ⟨g9, 1, none⟩ = some (.slice KA9 kn9 kc9) := fun q => q.cell r1
        have O2 : ∀ q : BW u4, q.val.cell? ⟨g9, 2, none⟩ = some (.bool G.ha) := fun q => q.cell r2
        have O3 : ∀ q : BW u4, q.val.cell? ⟨g9, 3, none⟩ = some (.int .i64 G.ep) := fun q => q.cell r3
        have O4 : ∀ q : BW u4, q.val.cell? ⟨g9, 4, none⟩ = some (.int .i64 G.ver) := fun q => q.cell r4
        have O5 : ∀ q : BW u4, q.val.cell? ⟨g9, 5, none⟩ = some (.slice CA9 cn9 cc9) := fun q => q.cell r5
        obtain ⟨a1, ha1⟩ : ∃ v, v = verR x.sh G.cs := ⟨_, rfl⟩
        obtain ⟨a2, ha2⟩ : ∃ v, v = verR x.sh R.cs := ⟨_, rfl⟩
        rw [← ha1, ← ha2] at v1
        have K1 : Hid (∀ q : BW u4, Calls Tryd.prog 20 #[rval ⟨KA9, kn9, kc9, CA9, cn9, cc9⟩ G, .int .i64 x.sh] q.val fun e w'' => e = .returned (.int .i64 a1) ∧ ∃ q : BW u4, w'' = q.val) := fun q =>
          Calls.bw (by rw [ha1]; exact version_any G ⟨KA9, kn9, kc9, CA9, cn9, cc9⟩ x.sh q.val (GR.out.step q.below))
        have K2 : Hid (∀ q : BW u4, Calls Tryd.prog 20 #[rval ⟨KA, kn, kc, some ⟨b, off, none⟩, cn, cc⟩ R, .int .i64 x.sh] q.val fun e w'' => e = .returned (.int .i64 a2) ∧ ∃ q : BW u4, w'' = q.val) := fun q =>
          Calls.bw (by rw [ha2]; exact version_any R ⟨KA, kn, kc, some ⟨b, off, none⟩, cn, cc⟩ x.sh q.val ((H.out.step GE.out).step q.below))
        have K3 : Hid (∀ q : BW u4, Calls Tryd.prog 20 #[rval ⟨KA9, kn9, kc9, CA9, cn9, cc9⟩ G, .int .i64 z] q.val fun e w'' => e = .returned (.int .i64 G.ver) ∧ ∃ q : BW u4, w'' = q.val) := fun q =>
          Calls.bw (by rw [← v2]; exact version_any G ⟨KA9, kn9, kc9, CA9, cn9, cc9⟩ z q.val (GR.out.step q.below))
        have K4 : Hid (∀ q : BW u4, Calls Tryd.prog 8 #[] q.val fun e w'' => e = .returned (.bool true) ∧ ∃ q : BW u4, w'' = q.val) := fun q =>
          Calls.bw (awake49_any q.val ((HT.out.step GE.out).step q.below))
        have v1b : (a1 != a2) = true := by simpa using v1
        have v2b : (G.ver == G.ver) = true := by simp
        clear q0 q1 q2 q3 q4 q5 qz r0 r1 r2 r3 r4 r5 rz k2 v2 ha1 ha2
        refine wp_region_bw (by kernel_rfl) (by kernel_rfl) ?_
        repeat (go_big_quiet_step (first | (with_reducible exact K1.out _) | (with_reducible exact K2.out _) | (with_reducible exact K3.out _) | (with_reducible exact K4.out _)))
        refine wpQuiet_nil ?_
        rintro _ ⟨kw, rfl⟩
        have ZE := Lib.hid (GE.out.step' kw.below)
        clear P0 P1 P2 P3 P4 P5 Y2 O0 O1 O2 O3 O4 O5 K1 K2 K3 K4
        generalize kw.val = u5 at *
        go_wp2_with fail
        go_ret
        exact ⟨rfl, ZE.out⟩
  subst her
  obtain ⟨Bk, hj, hbn, hal⟩ := HBL.out rfl
  have HAL := Lib.hid hal
  have HBN := Lib.hid hbn
  clear HBL hal hbn
  go_upto_region 5 with fail
  obtain ⟨q0, q1, q2, q3, q4, q5, qz⟩ := blk_ro ES.out
  simp only at q1 q5
  have k0 := E1.out.cell 0
  have k1 := E1.out.cell 1
  have k2 := E1.out.cell 2
  have k3 := E1.out.cell 3
  simp at k0 k1 k2 k3
  have hjn := join_any S ⟨KA1, kn1, kc1, CA1, cn1, cc1⟩ key wt ER.out
  rw [hj] at hjn
  have HJN := Lib.hid hjn
  clear hjn hj
  go_wp2_with fail
  clear q0 q1 q2 q3 q4 q5 qz k0 k1 k2 k3
  refine HJN.out.mono ?_
  rintro e w4 ⟨⟨KA2, kn2, kc2, CA2, cn2, cc2⟩, rfl, hr2, hb2⟩
  obtain rfl : cn = cn2 := by
    have h1 : cn2 = Bk.cs.length := hr2.cs.ln
    have h2 : cn = R.cs.length := H.out.cs.ln
    have := HBN.out
    omega
  have F0 := Lib.hid ((E0.out.step hb2).alloc (Obj.cells (rarr ⟨KA2, kn2, kc2, CA2, cn, cc2⟩ Bk) 30))
  have F1 := Lib.hid ((E1.out.step hb2).alloc (Obj.cells (rarr ⟨KA2, kn2, kc2, CA2, cn, cc2⟩ Bk) 30))
  have FE := Lib.hid ((EE.out.step' hb2).alloc (EE.out.step' hb2).size (Obj.cells (rarr ⟨KA2, kn2, kc2, CA2, cn, cc2⟩ Bk) 30))
  have FR := Lib.hid (hr2.alloc (Obj.cells (rarr ⟨KA2, kn2, kc2, CA2, cn, cc2⟩ Bk) 30))
  have FS : Hid (Blk (w4.alloc (Obj.cells (rarr ⟨KA2, kn2, kc2, CA2, cn, cc2⟩ Bk) 30)) w4.heap.size 30 (rarr ⟨KA2, kn2, kc2, CA2, cn, cc2⟩ Bk)) := Blk.new_at rfl
  clear hb2 hr2 HJN E0 E1 EE ER ES
  go_upto_region 6 with fail
  change (Code.region 6 _ _).wp _ _ _ (w4.alloc (Obj.cells (rarr ⟨KA2, kn2, kc2, CA2, cn, cc2⟩ Bk) 30))
  generalize w4.alloc (Obj.cells (rarr ⟨KA2, kn2, kc2, CA2, cn, cc2⟩ Bk) 30) = w5 at *
  generalize w4.heap.size = g2 at *
  have a5 : w5.cell? ⟨w.heap.size, 5, none⟩ = some (.slice CA cn cc) := (blk_ro F0.out).2.2.2.2.2.1
  have b5 : w5.cell? ⟨g2, 5, none⟩ = some (.slice CA2 cn cc2) := (blk_ro FS.out).2.2.2.2.2.1
  go_wp2_with fail
  clear a5 b5
  have HZ : Hid (cn ≤ 140737488355328) := by have h1 : cn * 56 ≤ reach := H.out.cs.sz; unfold reach at h1; unfold Hid; omega
  go_loopw [9] (fun v wr => ∃ m : Nat, m ≤ cn ∧ v = .int .i64 m ∧ Below w5.heap.size w5 wr) (fun v _ => cn - (intOf v).toNat)
  case atStart => exact ⟨0, Nat.zero_le _, rfl, Below.refl _ _⟩
  case round =>
    obtain ⟨m, hm, rfl, hbel⟩ := hrel
    have J0 := Lib.hid (F0.out.step hbel)
    have J1 := Lib.hid (F1.out.step hbel)
    have JS := Lib.hid (FS.out.step hbel)
    have JE := Lib.hid (FE.out.step' hbel)
    have JR := Lib.hid (FR.out.step hbel)
    clear F0 F1 FS FE FR
    have a5 : wr.cell? ⟨w.heap.size, 5, none⟩ = some (.slice CA cn cc) := (blk_ro J0.out).2.2.2.2.2.1
    have b5 : wr.cell? ⟨g2, 5, none⟩ = some (.slice CA2 cn cc2) := (blk_ro JS.out).2.2.2.2.2.1
    have hzz := HZ.out
    by_cases hlt : m < cn
    · obtain ⟨b, off, x, hA, hb, hx, e0, e1, e2, e3, e4⟩ := H.out.cs.sr.at5 hlt
      obtain ⟨b', off', y, hA', hb', hy, f0, f1, f2, f3, f4⟩ := JR.out.cs.sr.at5 hlt
      simp only at hA hA'
      subst hA hA'
      obtain ⟨l1, l2, l3, l4⟩ := HAL.out m x y hx hy
      replace e0 := (JE.out.cell (p := ⟨b, off + m * 5, none⟩) hb).trans e0
      replace e1 := (JE.out.cell (p := ⟨b, off + m * 5 + 1, none⟩) hb).trans e1
      replace e2 := (JE.out.cell (p := ⟨b, off + m * 5 + 2, none⟩) hb).trans e2
      replace e3 := (JE.out.cell (p := ⟨b, off + m * 5 + 3, none⟩) hb).trans e3
      replace e4 := (JE.out.cell (p := ⟨b, off + m * 5 + 4, none⟩) hb).trans e4
      have i0 : (0 : Int) ≤ (m : Int) := by omega
      have i1 : (m : Int) < (cn : Int) := by omega
      clear hx hy
      have n1 : w.heap.size < wr.heap.size := J0.out.lt
      have n2 : w.heap.size < wr.heap.size + 1 := by omega
      have n3 : g2 < wr.heap.size := JS.out.lt
      have n4 : g2 < wr.heap.size + 1 := by omega
      have n5 : b < wr.heap.size := Nat.lt_of_lt_of_le hb JE.out.size
      have n6 : b < wr.heap.size + 1 := by omega
      have n7 : b' < wr.heap.size + 1 := by omega
      go_upto_region 11 with fail
      obtain ⟨xlo, xhi, xsh, xver, xju⟩ := x
      obtain ⟨ylo, yhi, ysh, yver, yju⟩ := y
      simp only at e0 e1 e2 e3 e4 f0 f1 f2 f3 f4 l1 l2 l3 l4
      subst l3 l4
      go_cut [10, 11] (fun v10 v11 wx => ∃ gl gu : Nat, v10 = .pointer (some ⟨gl, 0, none⟩) ∧ v11 = .pointer (some ⟨gu, 0, none⟩) ∧ Blk wx gl 45 #[.string xlo, .string xhi, .int .i64 xsh, .int .i64 xver, .bool xju] ∧ Blk wx gu 45 #[.string ylo, .string yhi, .int .i64 xsh, .int .i64 yver, .bool xju] ∧ Below wr.heap.size wr wx)
      case first =>
        go_region
        all_goals (go_wp2_with fail; go_meet)
        all_goals first
          | exact ⟨wr.heap.size, wr.heap.size + 1, rfl, rfl, (Blk.new_at rfl).alloc _, Blk.new_at (by simp), (((Below.refl _ _).alloc (Nat.le_refl _) _).alloc (by simp) _).drew⟩
          | exact ⟨wr.heap.size + 1, wr.heap.size, rfl, rfl, Blk.new_at (by simp), (Blk.new_at rfl).alloc _, (((Below.refl _ _).alloc (Nat.le_refl _) _).alloc (by simp) _).drew⟩
      case rest =>
        obtain ⟨gl, gu, rfl, rfl, L0, L1, hbc⟩ := hcut
        have HB := Lib.hid ((Lib.hid hbel).out.step' hbc)
        have s0 := L0.cell 0
        have s1 := L0.cell 1
        have s2 := L0.cell 2
        have s4 := L0.cell 4
        have t0 := L1.cell 0
        have t1 := L1.cell 1
        have t2 := L1.cell 2
        have t4 := L1.cell 4
        simp at s0 s1 s2 s4 t0 t1 t2 t4
        replace a5 := (hbc.cell (p := ⟨w.heap.size, 5, none⟩) n1).trans a5
        replace b5 := (hbc.cell (p := ⟨g2, 5, none⟩) n3).trans b5
        clear e0 e1 e2 e3 e4 f0 f1 f2 f3 f4 L0 L1 hbel n1 n2 n3 n4 n5 n6 n7
        clear hbc
        have c1 : (xlo.toList != ylo.toList) = false := by rw [l1]; simp
        have c2 : (xhi.toList != yhi.toList) = false := by rw [l2]; simp
        have c3 : (xsh != xsh) = false := by simp
        have c4 : (xju != xju) = false := by simp
        go_wp2_with fail
        go_roundw
        case rel => exact ⟨m + 1, by omega, by go_num, HB.out⟩
        case measure => simp [intOf]; omega
    · obtain rfl : cn = m := by omega
      go_upto_region 14 with fail
      have T0 := J0
      have T1 := J1
      have TE := JE
      clear JR JS hlt hm hzz b5 hbel HAL HBN a5
      generalize wr = wt at *
      obtain ⟨q0, q1, q2, q3, q4, q5, qz⟩ := blk_ro T0.out
      simp only at q1 q5
      have k0 := T1.out.cell 0
      have k1 := T1.out.cell 1
      have k2 := T1.out.cell 2
      have k3 := T1.out.cell 3
      simp at k0 k1 k2 k3
      have hfd := find_any R ⟨KA, kn, kc, CA, cn, cc⟩ key wt (H.out.step TE.out)
      rw [HIX.out] at hfd
      have HFD := Lib.hid hfd
      clear hfd
      go_wp2_with fail
      clear q0 q1 q2 q3 q4 q5 qz k0 k1 k2 k3
      refine HFD.out.mono ?_
      rintro e u1 ⟨rfl, hb1⟩
      have U0 := Lib.hid (T0.out.step hb1)
      have U1 := Lib.hid (T1.out.step hb1)
      have UE := Lib.hid (TE.out.step' hb1)
      clear hb1 HFD T0 T1 TE
      have i0 : (0 : Int) ≤ (i : Int) := by omega
      have i1 : (i : Int) < (cn : Int) := by have := HLT.out; omega
      go_upto_region 17 with fail
      obtain ⟨b, off, x, hA, hb, hx, e0, e1, e2, e3, e4⟩ := H.out.cs.sr.at5 HLT.out
      obtain rfl : x = c := Option.some.inj (hx.symm.trans HI.out)
      simp only at hA
      subst hA
      replace e0 := (UE.out.cell (p := ⟨b, off + i * 5, none⟩) hb).trans e0
      replace e2 := (UE.out.cell (p := ⟨b, off + i * 5 + 2, none⟩) hb).trans e2
      clear e1 e3 e4 hx
      obtain ⟨q0, q1, q2, q3, q4, q5, qz⟩ := blk_ro U0.out
      simp only at q1 q5
      have k0 := U1.out.cell 0
      have k1 := U1.out.cell 1
      have k2 := U1.out.cell 2
      have k3 := U1.out.cell 3
      simp at k0 k1 k2 k3
      obtain ⟨gg, hgg⟩ : ∃ gg, gg = giveR R x.lo z := ⟨_, rfl⟩
      have hpg := path_of (giveR_ks R x.lo z) HVR.out.path
      rw [← hgg] at hpg
      have HGG := Lib.hid hgg
      have HPG := Lib.hid hpg
      have HGV : Hid (∀ wq, RR wq ⟨KA, kn, kc, some ⟨b, off, none⟩, cn, cc⟩ R → Calls Tryd.prog 19 #[rval ⟨KA, kn, kc, some ⟨b, off, none⟩, cn, cc⟩ R, .string x.lo, .int .i64 z] wq (RouOk gg wq)) := Lib.hid fun wq hq => by rw [hgg]; exact give_any R ⟨KA, kn, kc, some ⟨b, off, none⟩, cn, cc⟩ x.lo z wq hq
      clear hgg hpg
      have HR1 := Lib.hid (H.out.step UE.out)
      have lb0 := U0.out.lt
      have lb1 := U1.out.lt
      have lbb : b < u1.heap.size := Nat.lt_of_lt_of_le hb UE.out.size
      have KC : Hid (∀ w' : World, (∀ g, g < u1.heap.size → w'.heap[g]? = u1.heap[g]?) → w'.cell? ⟨w.heap.size, 0, none⟩ = some (.string R.sp) ∧ w'.cell? ⟨w.heap.size, 1, none⟩ = some (.slice KA kn kc) ∧ w'.cell? ⟨w.heap.size, 2, none⟩ = some (.bool R.ha) ∧ w'.cell? ⟨w.heap.size, 3, none⟩ = some (.int .i64 R.ep) ∧ w'.cell? ⟨w.heap.size, 4, none⟩ = some (.int .i64 R.ver) ∧ w'.cell? ⟨w.heap.size, 5, none⟩ = some (.slice (some ⟨b, off, none⟩) cn cc) ∧ w'.cell? ⟨w.heap.size + 1, 2, none⟩ = some (.int .i64 z) ∧ w'.cell? ⟨b, off + i * 5, none⟩ = some (.string x.lo)) := Lib.hid fun w' hk => by
        have p0 : ∀ o, w'.cell? ⟨w.heap.size, o, none⟩ = u1.cell? ⟨w.heap.size, o, none⟩ := fun o => World.cell?_of_block (w := u1) (a := ⟨w.heap.size, o, none⟩) (hk _ lb0)
        have p1 : ∀ o, w'.cell? ⟨w.heap.size + 1, o, none⟩ = u1.cell? ⟨w.heap.size + 1, o, none⟩ := fun o => World.cell?_of_block (w := u1) (a := ⟨w.heap.size + 1, o, none⟩) (hk _ lb1)
        have p2 : ∀ o, w'.cell? ⟨b, o, none⟩ = u1.cell? ⟨b, o, none⟩ := fun o => World.cell?_of_block (w := u1) (a := ⟨b, o, none⟩) (hk _ lbb)
        exact ⟨(p0 _).trans q0, (p0 _).trans q1, (p0 _).trans q2, (p0 _).trans q3, (p0 _).trans q4, (p0 _).trans q5, (p1 _).trans k2, (p2 _).trans e0⟩
      go_cut [13, 14] (fun v13 v14 wx => ∃ (g9 : Nat) (a9 : RA), v13 = .pointer (some ⟨g9, 0, none⟩) ∧ v14 = .int .i64 gg.2 ∧ Blk wx g9 30 (rarr a9 gg.1) ∧ RR wx a9 gg.1 ∧ u1.heap.size ≤ g9 ∧ Below u1.heap.size u1 wx)
      case first =>
        refine wp_region_noPanic ?_
        refine wp_region_held_drew (S := (fun w' => w'.cell? ⟨w.heap.size, 0, none⟩ = some (.string R.sp) ∧ w'.cell? ⟨w.heap.size, 1, none⟩ = some (.slice KA kn kc) ∧ w'.cell? ⟨w.heap.size, 2, none⟩ = some (.bool R.ha) ∧ w'.cell? ⟨w.heap.size, 3, none⟩ = some (.int .i64 R.ep) ∧ w'.cell? ⟨w.heap.size, 4, none⟩ = some (.int .i64 R.ver) ∧ w'.cell? ⟨w.heap.size, 5, none⟩ = some (.slice (some ⟨b, off, none⟩) cn cc) ∧ w'.cell? ⟨w.heap.size + 1, 2, none⟩ = some (.int .i64 z) ∧ w'.cell? ⟨b, off + i * 5, none⟩ = some (.string x.lo))) (by kernel_rfl) ?_ (fun hHeld => ?_)
        · (try dsimp only); exact KC.out _ (fun g hg => rfl)
        have B : Hid (Below u1.heap.size u1 u1.drew) := Lib.hid ((Below.refl u1.heap.size u1).drew)
        generalize u1.drew = W0 at *
        refine wpAnyH_take (i := 0) (v := ?_) (take_at rfl) (by kernel_rfl) (by kernel_rfl) (by kernel_rfl) (fun _ _ _ h => h) (Or.inl ⟨by rfl, ?_⟩) (by assumption) ?_
        rotate_left
        · intro w' hSw; (try dsimp only at hSw); go_simp; (try with_reducible rfl)
        (try simp only [Act.put, List.setIfInBounds_toArray, List.set_cons_zero, List.set_cons_succ])
        refine wpAnyH_take (i := 1) (v := ?_) (take_at rfl) (by kernel_rfl) (by kernel_rfl) (by kernel_rfl) (fun _ _ _ h => h) (Or.inl ⟨by rfl, ?_⟩) (by assumption) ?_
        rotate_left
        · intro w' hSw; (try dsimp only at hSw); go_simp; (try with_reducible rfl)
        (try simp only [Act.put, List.setIfInBounds_toArray, List.set_cons_zero, List.set_cons_succ])
        refine wpAnyH_take (i := 2) (v := ?_) (take_at rfl) (by kernel_rfl) (by kernel_rfl) (by kernel_rfl) (fun _ _ _ h => h) (Or.inl ⟨by rfl, ?_⟩) (by assumption) ?_
        rotate_left
        · intro w' hSw; (try dsimp only at hSw); go_simp; (try with_reducible rfl)
        (try simp only [Act.put, List.setIfInBounds_toArray, List.set_cons_zero, List.set_cons_succ])
        refine wpAnyH_take (i := 3) (v := ?_) (take_at rfl) (by kernel_rfl) (by kernel_rfl) (by kernel_rfl) (fun _ _ _ h => h) (Or.inl ⟨by rfl, ?_⟩) (by assumption) ?_
        rotate_left
        · intro w' hSw; (try dsimp only at hSw); go_simp; (try with_reducible rfl)
        (try simp only [Act.put, List.setIfInBounds_toArray, List.set_cons_zero, List.set_cons_succ])
        refine wpAnyH_take (i := 4) (v := ?_) (take_at rfl) (by kernel_rfl) (by kernel_rfl) (by kernel_rfl) (fun _ _ _ h => h) (Or.inl ⟨by rfl, ?_⟩) (by assumption) ?_
        rotate_left
        · intro w' hSw; (try dsimp only at hSw); go_simp; (try with_reducible rfl)
        (try simp only [Act.put, List.setIfInBounds_toArray, List.set_cons_zero, List.set_cons_succ])
        refine wpAnyH_take (i := 5) (v := ?_) (take_at rfl) (by kernel_rfl) (by kernel_rfl) (by kernel_rfl) (fun _ _ _ h => h) (Or.inl ⟨by rfl, ?_⟩) (by assumption) ?_
        rotate_left
        · intro w' hSw; (try dsimp only at hSw); go_simp; (try with_reducible rfl)
        (try simp only [Act.put, List.setIfInBounds_toArray, List.set_cons_zero, List.set_cons_succ])
        refine wpAnyH_take (i := 6) (v := ?_) (take_at rfl) (by kernel_rfl) (by kernel_rfl) (by kernel_rfl) (fun _ _ _ h => h) (Or.inl ⟨by rfl, ?_⟩) (by assumption) ?_
        rotate_left
        · intro w' hSw; (try dsimp only at hSw); go_simp; (try with_reducible rfl)
        (try simp only [Act.put, List.setIfInBounds_toArray, List.set_cons_zero, List.set_cons_succ])
        refine wpAnyH_take (i := 7) (v := ?_) (take_at rfl) (by kernel_rfl) (by kernel_rfl) (by kernel_rfl) (fun _ _ _ h => h) (Or.inl ⟨by rfl, ?_⟩) (by assumption) ?_
        rotate_left
        · intro w' hSw; (try dsimp only at hSw); go_simp; (try with_reducible rfl)
        (try simp only [Act.put, List.setIfInBounds_toArray, List.set_cons_zero, List.set_cons_succ])
        refine wpAnyH_take (i := 8) (v := ?_) (take_at rfl) (by kernel_rfl) (by kernel_rfl) (by kernel_rfl) (fun _ _ _ h => h) (Or.inl ⟨by rfl, ?_⟩) (by assumption) ?_
        rotate_left
        · intro w' hSw; (try dsimp only at hSw); go_simp; (try with_reducible rfl)
        (try simp only [Act.put, List.setIfInBounds_toArray, List.set_cons_zero, List.set_cons_succ])
        refine wpAnyH_ready (rs := [9, 13]) (by kernel_rfl) (by simp) ?_
        refine AllReadyH.cons (take_at rfl) (fun K hK => ?_) (AllReadyH.cons (take_at rfl) (fun K hK => ?_) AllReadyH.nil)
        · go_simp
          refine (HGV.out _ (HR1.out.step B.out)).mono ?_
          rintro e W1 ⟨⟨KA9, kn9, kc9, CA9, cn9, cc9⟩, rfl, hr, hb⟩
          have R9 := Lib.hid hr
          replace B := Lib.hid (B.out.step' hb)
          clear hb hr
          (try go_wp2_with fail)
          refine hK.out _ _ ?_ (fun hHeld2 => ?_)
          · (try dsimp only); exact KC.out _ (fun g hg => B.out.block g hg)
          clear hK K hHeld
          have hHeld := hHeld2
          clear hHeld2
          (try simp only [Act.put, List.setIfInBounds_toArray, List.set_cons_zero, List.set_cons_succ])
          refine wpAnyH_take (i := 10) (v := ?_) (take_at rfl) (by kernel_rfl) (by kernel_rfl) (by kernel_rfl) (fun _ _ _ h => h) (Or.inl ⟨by rfl, ?_⟩) (by assumption) ?_
          rotate_left
          · intro w' hSw; (try dsimp only at hSw); go_simp; (try with_reducible rfl)
          (try simp only [Act.put, List.setIfInBounds_toArray, List.set_cons_zero, List.set_cons_succ])
          refine wpAnyH_take (i := 11) (v := ?_) (take_at rfl) (by kernel_rfl) (by kernel_rfl) (by kernel_rfl) (fun _ _ _ h => h) (Or.inl ⟨by rfl, ?_⟩) (by assumption) ?_
          rotate_left
          · intro w' hSw; (try dsimp only at hSw); go_simp; (try with_reducible rfl)
          (try simp only [Act.put, List.setIfInBounds_toArray, List.set_cons_zero, List.set_cons_succ])
          refine wpAnyH_take (i := 12) (v := ?_) (take_at rfl) (by kernel_rfl) (by kernel_rfl) (by kernel_rfl) (fun _ _ _ h => h) (Or.inl ⟨by rfl, ?_⟩) (by assumption) ?_
          rotate_left
          · intro w' hSw; (try dsimp only at hSw); go_simp; (try with_reducible rfl)
          (try simp only [Act.put, List.setIfInBounds_toArray, List.set_cons_zero, List.set_cons_succ])
          refine wpAnyH_ready (rs := [13]) (by kernel_rfl) (by simp) ?_
          refine AllReadyH.cons (take_at rfl) (fun K hK => ?_) AllReadyH.nil
          go_simp
          have hg9 : u1.heap.size ≤ W1.heap.size := B.out.size
          have Q9 : Hid (Blk (W1.alloc (Obj.cells (rarr RA.zero Ro.zero) 30)) W1.heap.size 30 (rarr RA.zero Ro.zero)) := Blk.new_at rfl
          replace R9 := Lib.hid (R9.out.alloc (Obj.cells (rarr RA.zero Ro.zero) 30))
          replace B := Lib.hid (B.out.alloc B.out.size (Obj.cells (rarr RA.zero Ro.zero) 30))
          change K _ (W1.alloc (Obj.cells (rarr RA.zero Ro.zero) 30))
          generalize W1.alloc (Obj.cells (rarr RA.zero Ro.zero) 30) = W2 at *
          generalize W1.heap.size = g9 at *
          refine hK.out _ _ ?_ (fun hHeld2 => ?_)
          · (try dsimp only); exact KC.out _ (fun g hg => B.out.block g hg)
          clear hK K hHeld
          have hHeld := hHeld2
          clear hHeld2
          (try simp only [Act.put, List.setIfInBounds_toArray, List.set_cons_zero, List.set_cons_succ])
          refine wpAnyH_ready (rs := [14]) (by kernel_rfl) (by simp) ?_
          refine AllReadyH.cons (take_at rfl) (fun K hK => ?_) AllReadyH.nil
          obtain ⟨z0, z1, z2, z3, z4, z5, zz⟩ := blk_ro Q9.out
          have lq := Q9.out.lt
          go_simp
          have R9' := Lib.hid (R9.out.far HPG.out Q9.out ⟨KA9, kn9, kc9, CA9, cn9, cc9⟩ gg.1)
          have Q9' := Lib.hid (Q9.out.putR (a := ⟨KA9, kn9, kc9, CA9, cn9, cc9⟩) (R := gg.1))
          have B' := Lib.hid (below_setR B.out hg9 ⟨KA9, kn9, kc9, CA9, cn9, cc9⟩ gg.1)
          clear z0 z1 z2 z3 z4 z5 zz lq R9 Q9 B
          have R9 := R9'
          have Q9 := Q9'
          have B := B'
          clear R9' Q9' B'
          change K _ (setR W2 g9 ⟨KA9, kn9, kc9, CA9, cn9, cc9⟩ gg.1)
          generalize setR W2 g9 ⟨KA9, kn9, kc9, CA9, cn9, cc9⟩ gg.1 = W3 at *
          refine hK.out _ _ ?_ (fun hHeld2 => ?_)
          · (try dsimp only); exact KC.out _ (fun g hg => B.out.block g hg)
          clear hK K hHeld
          have hHeld := hHeld2
          clear hHeld2
          (try simp only [Act.put, List.setIfInBounds_toArray, List.set_cons_zero, List.set_cons_succ])
          refine wpAnyH_take (i := 15) (v := ?_) (take_at rfl) (by kernel_rfl) (by kernel_rfl) (by kernel_rfl) (fun _ _ _ h => h) (Or.inl ⟨by rfl, ?_⟩) (by assumption) ?_
          rotate_left
          · intro w' hSw; (try dsimp only at hSw); go_simp; (try with_reducible rfl)
          (try simp only [Act.put, List.setIfInBounds_toArray, List.set_cons_zero, List.set_cons_succ])
          refine wpAnyH_done (by kernel_rfl) ?_ _
          refine NoPanic.normal ?_
          go_wp2_with fail
          go_meet
          exact ⟨g9, ⟨KA9, kn9, kc9, CA9, cn9, cc9⟩, rfl, rfl, Q9.out, R9.out, hg9, B.out⟩
        · go_simp
          have hg9 : u1.heap.size ≤ W0.heap.size := B.out.size
          have Q9 : Hid (Blk (W0.alloc (Obj.cells (rarr RA.zero Ro.zero) 30)) W0.heap.size 30 (rarr RA.zero Ro.zero)) := Blk.new_at rfl
          replace B := Lib.hid (B.out.alloc B.out.size (Obj.cells (rarr RA.zero Ro.zero) 30))
          change K _ (W0.alloc (Obj.cells (rarr RA.zero Ro.zero) 30))
          generalize W0.alloc (Obj.cells (rarr RA.zero Ro.zero) 30) = W1 at *
          generalize W0.heap.size = g9 at *
          refine hK.out _ _ ?_ (fun hHeld2 => ?_)
          · (try dsimp only); exact KC.out _ (fun g hg => B.out.block g hg)
          clear hK K hHeld
          have hHeld := hHeld2
          clear hHeld2
          (try simp only [Act.put, List.setIfInBounds_toArray, List.set_cons_zero, List.set_cons_succ])
          refine wpAnyH_ready (rs := [9]) (by kernel_rfl) (by simp) ?_
          refine AllReadyH.cons (take_at rfl) (fun K hK => ?_) AllReadyH.nil
          go_simp
          refine (HGV.out _ (HR1.out.step B.out)).mono ?_
          rintro e W2 ⟨⟨KA9, kn9, kc9, CA9, cn9, cc9⟩, rfl, hr, hb⟩
          have R9 := Lib.hid hr
          replace Q9 := Lib.hid (Q9.out.step hb)
          replace B := Lib.hid (B.out.step' hb)
          clear hb hr
          (try go_wp2_with fail)
          refine hK.out _ _ ?_ (fun hHeld2 => ?_)
          · (try dsimp only); exact KC.out _ (fun g hg => B.out.block g hg)
          clear hK K hHeld
          have hHeld := hHeld2
          clear hHeld2
          (try simp only [Act.put, List.setIfInBounds_toArray, List.set_cons_zero, List.set_cons_succ])
          refine wpAnyH_take (i := 10) (v := ?_) (take_at rfl) (by kernel_rfl) (by kernel_rfl) (by kernel_rfl) (fun _ _ _ h => h) (Or.inl ⟨by rfl, ?_⟩) (by assumption) ?_
          rotate_left
          · intro w' hSw; (try dsimp only at hSw); go_simp; (try with_reducible rfl)
          (try simp only [Act.put, List.setIfInBounds_toArray, List.set_cons_zero, List.set_cons_succ])
          refine wpAnyH_take (i := 11) (v := ?_) (take_at rfl) (by kernel_rfl) (by kernel_rfl) (by kernel_rfl) (fun _ _ _ h => h) (Or.inl ⟨by rfl, ?_⟩) (by assumption) ?_
          rotate_left
          · intro w' hSw; (try dsimp only at hSw); go_simp; (try with_reducible rfl)
          (try simp only [Act.put, List.setIfInBounds_toArray, List.set_cons_zero, List.set_cons_succ])
          refine wpAnyH_take (i := 12) (v := ?_) (take_at rfl) (by kernel_rfl) (by kernel_rfl) (by kernel_rfl) (fun _ _ _ h => h) (Or.inl ⟨by rfl, ?_⟩) (by assumption) ?_
          rotate_left
          · intro w' hSw; (try dsimp only at hSw); go_simp; (try with_reducible rfl)
          (try simp only [Act.put, List.setIfInBounds_toArray, List.set_cons_zero, List.set_cons_succ])
          refine wpAnyH_ready (rs := [14]) (by kernel_rfl) (by simp) ?_
          refine AllReadyH.cons (take_at rfl) (fun K hK => ?_) AllReadyH.nil
          obtain ⟨z0, z1, z2, z3, z4, z5, zz⟩ := blk_ro Q9.out
          have lq := Q9.out.lt
          go_simp
          have R9' := Lib.hid (R9.out.far HPG.out Q9.out ⟨KA9, kn9, kc9, CA9, cn9, cc9⟩ gg.1)
          have Q9' := Lib.hid (Q9.out.putR (a := ⟨KA9, kn9, kc9, CA9, cn9, cc9⟩) (R := gg.1))
          have B' := Lib.hid (below_setR B.out hg9 ⟨KA9, kn9, kc9, CA9, cn9, cc9⟩ gg.1)
          clear z0 z1 z2 z3 z4 z5 zz lq R9 Q9 B
          have R9 := R9'
          have Q9 := Q9'
          have B := B'
          clear R9' Q9' B'
          change K _ (setR W2 g9 ⟨KA9, kn9, kc9, CA9, cn9, cc9⟩ gg.1)
          generalize setR W2 g9 ⟨KA9, kn9, kc9, CA9, cn9, cc9⟩ gg.1 = W3 at *
          refine hK.out _ _ ?_ (fun hHeld2 => ?_)
          · (try dsimp only); exact KC.out _ (fun g hg => B.out.block g hg)
          clear hK K hHeld
          have hHeld := hHeld2
          clear hHeld2
          (try simp only [Act.put, List.setIfInBounds_toArray, List.set_cons_zero, List.set_cons_succ])
          refine wpAnyH_take (i := 15) (v := ?_) (take_at rfl) (by kernel_rfl) (by kernel_rfl) (by kernel_rfl) (fun _ _ _ h => h) (Or.inl ⟨by rfl, ?_⟩) (by assumption) ?_
          rotate_left
          · intro w' hSw; (try dsimp only at hSw); go_simp; (try with_reducible rfl)
          (try simp only [Act.put, List.setIfInBounds_toArray, List.set_cons_zero, List.set_cons_succ])
          refine wpAnyH_done (by kernel_rfl) ?_ _
          refine NoPanic.normal ?_
          go_wp2_with fail
          go_meet
          exact ⟨g9, ⟨KA9, kn9, kc9, CA9, cn9, cc9⟩, rfl, rfl, Q9.out, R9.out, hg9, B.out⟩
      case rest =>
        obtain ⟨g9, ⟨KA9, kn9, kc9, CA9, cn9, cc9⟩, rfl, rfl, hg9, hr9, hl9, hb9⟩ := hcut
        have G0 := Lib.hid (U0.out.step hb9)
        have G1 := Lib.hid (U1.out.step hb9)
        have GE := Lib.hid (UE.out.step' hb9)
        have G9 := Lib.hid hg9
        have GR := Lib.hid hr9
        replace e2 := (hb9.cell (p := ⟨b, off + i * 5 + 2, none⟩) lbb).trans e2
        clear hg9 hr9 hb9 hl9 HGV HPG KC q0 q1 q2 q3 q4 q5 qz k0 k1 k2 k3 e0 U0 U1 UE HR1 lb0 lb1 lbb
        generalize wc = u4 at *
        obtain ⟨G, er9⟩ := gg
        simp only at G9 GR
        rcases give_errs HVR.out HVV.out HI.out (z := z) with he9 | he9 | ⟨he9, v1, v2⟩
        · rw [← HGG.out] at he9
          simp only at he9
          subst he9
          go_wp2_with fail
          refine (awake49_any u4 (HT.out.step GE.out)).mono ?_
          rintro e wz1 ⟨rfl, hbz⟩
          go_wp2_with fail
          go_ret
          exact ⟨rfl, GE.out.step' hbz⟩
        · rw [← HGG.out] at he9
          simp only at he9
          subst he9
          go_wp2_with fail
          refine (awake49_any u4 (HT.out.step GE.out)).mono ?_
          rintro e wz2 ⟨rfl, hbz⟩
          go_wp2_with fail
          go_ret
          exact ⟨rfl, GE.out.step' hbz⟩
        · rw [← HGG.out] at he9 v1 v2
          simp only at he9 v1 v2
          subst he9
          go_upto_region 20 with fail
          obtain ⟨q0, q1, q2, q3, q4, q5, qz⟩ := blk_ro G0.out
          simp only at q1 q5
          go_upto_region 21 with fail
          clear q0 q1 q2 q3 q4 q5 qz e2
          obtain ⟨q0, q1, q2, q3, q4, q5, qz⟩ := blk_ro G0.out
          obtain ⟨r0, r1, r2, r3, r4, r5, rz⟩ := blk_ro G9.out
          have k2 := G1.out.cell 2
          simp at k2
          simp only at q1 q5 r1 r5
          have P0 : ∀ q : BW u4, q.val.cell? ⟨w.heap.size, 0, none⟩ = some (.string R.sp) := fun q => q.cell q0
          have P1 : ∀ q : BW u4, q.val.cell? ⟨w.heap.size, 1, none⟩ = some (.slice KA kn kc) := fun q => q.cell q1
          have P2 : ∀ q : BW u4, q.val.cell? ⟨w.heap.size, 2, none⟩ = some (.bool R.ha) := fun q => q.cell q2
          have P3 : ∀ q : BW u4, q.val.cell? ⟨w.heap.size, 3, none⟩ = some (.int .i64 R.ep) := fun q => q.cell q3
          have P4 : ∀ q : BW u4, q.val.cell? ⟨w.heap.size, 4, none⟩ = some (.int .i64 R.ver) := fun q => q.cell q4
          have P5 : ∀ q : BW u4, q.val.cell? ⟨w.heap.size, 5, none⟩ = some (.slice (some ⟨b, off, none⟩) cn cc) := fun q => q.cell q5
          have Y2 : ∀ q : BW u4, q.val.cell? ⟨w.heap.size + 1, 2, none⟩ = some (.int .i64 z) := fun q => q.cell k2
          have O0 : ∀ q : BW u4, q.val.cell? ⟨g9, 0, none⟩ = some (.string G.sp) := fun q => q.cell r0
          have O1 : ∀ q : BW u4, q.val.cell? ⟨g9, 1, none⟩ = some (.slice KA9 kn9 kc9) := fun q => q.cell r1
          have O2 : ∀ q : BW u4, q.val.cell? ⟨g9, 2, none⟩ = some (.bool G.ha) := fun q => q.cell r2
          have O3 : ∀ q : BW u4, q.val.cell? ⟨g9, 3, none⟩ = some (.int .i64 G.ep) := fun q => q.cell r3
          have O4 : ∀ q : BW u4, q.val.cell? ⟨g9, 4, none⟩ = some (.int .i64 G.ver) := fun q => q.cell r4
          have O5 : ∀ q : BW u4, q.val.cell? ⟨g9, 5, none⟩ = some (.slice CA9 cn9 cc9) := fun q => q.cell r5
          obtain ⟨a1, ha1⟩ : ∃ v, v = verR x.sh G.cs := ⟨_, rfl⟩
          obtain ⟨a2, ha2⟩ : ∃ v, v = verR x.sh R.cs := ⟨_, rfl⟩
          rw [← ha1, ← ha2] at v1
          have K1 : Hid (∀ q : BW u4, Calls Tryd.prog 20 #[rval ⟨KA9, kn9, kc9, CA9, cn9, cc9⟩ G, .int .i64 x.sh] q.val fun e w'' => e = .returned (.int .i64 a1) ∧ ∃ q : BW u4, w'' = q.val) := fun q =>
            Calls.bw (by rw [ha1]; exact version_any G ⟨KA9, kn9, kc9, CA9, cn9, cc9⟩ x.sh q.val (GR.out.step q.below))
          have K2 : Hid (∀ q : BW u4, Calls Tryd.prog 20 #[rval ⟨KA, kn, kc, some ⟨b, off, none⟩, cn, cc⟩ R, .int .i64 x.sh] q.val fun e w'' => e = .returned (.int .i64 a2) ∧ ∃ q : BW u4, w'' = q.val) := fun q =>
            Calls.bw (by rw [ha2]; exact version_any R ⟨KA, kn, kc, some ⟨b, off, none⟩, cn, cc⟩ x.sh q.val ((H.out.step GE.out).step q.below))
          have K3 : Hid (∀ q : BW u4, Calls Tryd.prog 20 #[rval ⟨KA9, kn9, kc9, CA9, cn9, cc9⟩ G, .int .i64 z] q.val fun e w'' => e = .returned (.int .i64 G.ver) ∧ ∃ q : BW u4, w'' = q.val) := fun q =>
            Calls.bw (by rw [← v2]; exact version_any G ⟨KA9, kn9, kc9, CA9, cn9, cc9⟩ z q.val (GR.out.step q.below))
          have K4 : Hid (∀ q : BW u4, Calls Tryd.prog 8 #[] q.val fun e w'' => e = .returned (.bool true) ∧ ∃ q : BW u4, w'' = q.val) := fun q =>
            Calls.bw (awake49_any q.val ((HT.out.step GE.out).step q.below))
          have v1b : (a1 != a2) = true := by simpa using v1
          have v2b : (G.ver == G.ver) = true := by simp
          clear q0 q1 q2 q3 q4 q5 qz r0 r1 r2 r3 r4 r5 rz k2 v2 ha1 ha2
          refine wp_region_bw (by kernel_rfl) (by kernel_rfl) ?_
          repeat (go_big_quiet_step (first | (with_reducible exact K1.out _) | (with_reducible exact K2.out _) | (with_reducible exact K3.out _) | (with_reducible exact K4.out _)))
          refine wpQuiet_nil ?_
          rintro _ ⟨kw, rfl⟩
          have ZE := Lib.hid (GE.out.step' kw.below)
          clear P0 P1 P2 P3 P4 P5 Y2 O0 O1 O2 O3 O4 O5 K1 K2 K3 K4
          generalize kw.val = u5 at *
          go_wp2_with fail
          go_ret
          exact ⟨rfl, ZE.out⟩

end Go.Proofs.YtgcklgkhdokchaaDoor
