/- Parts of the proof, joined: MgCarriesWalk, MgCarriesLaw. -/
import Derived.Test.YtlmmgjgkmbmgpaaGreatDoorCa24
import Derived.Test.YtlmmgjgkmbmgpaaGreatDoorCa25
import Derived.Test.YtlmmgjgkmbmgpaaGreatDoorCa19
import Derived.Test.YtlmmgjgkmbmgpaaGreatDoorCa5
import Derived.Test.YtlmmgjgkmbmgpaaGreatDoorCards
import Derived.Test.YtlmmgjgkmbmgpaaGreatDoorTie
import Derived.Deep.RegionHeld3
import Derived.Lib.LaidIn
import Derived.Lib.LaidU8T
import Derived.PinnedBridge
import Derived.Deep.DeepHandedRow
import Derived.Deep.DeepWitnessRowRef
import Derived.ProofKit
import Derived.SizedLaws
import Derived.OpenShut
import Derived.ShutString
import Derived.ChangeOld
import Derived.Below
import Derived.SevenTiedAt
/- The walk of MigrateCarries. Printed by gen_mgcarries.py. -/
namespace Go.Proofs.YtlmmgjgkmbmgpaaGreatDoor
open Go.RowKit
set_option linter.unusedSimpArgs false

end Go.Proofs.YtlmmgjgkmbmgpaaGreatDoor
namespace Go
end Go
namespace Go.Proofs.YtlmmgjgkmbmgpaaGreatDoor
open Go.RowKit
set_option linter.unusedSimpArgs false
theorem flat_oneW (xs : List PW) : ∀ u ∈ flat recW xs, u.oneCell' = true := by
  intro u hu
  obtain ⟨p, _, h⟩ := List.mem_flatMap.1 hu
  exact recW_one p u h
theorem own_empty (w : World) (e : TypeId) (size : Nat) {base : Nat} (hb : base ≤ w.heap.size) : (w.alloc (.cells #[] e)).ownsRow base e size (.slice (some ⟨w.heap.size, 0, none⟩) 0 0) 0 [] :=
  ⟨by simp, .inr ⟨w.heap.size, 0, #[], rfl, hb, heap_alloc_new w _, Nat.le_refl _, Nat.zero_le _, by simp, by simp⟩⟩

set_option maxRecDepth 100000 in
set_option maxHeartbeats 16000000 in
theorem migrateCarries_walk (R : Ro) (a : RA) (lo : ByteArray) (tt ea : Int) (DA : Option Addr) (dn dc : Nat) (ps : List PV) (XA : Option Addr) (xn xc : Nat) (xs : List PX) (w : World) (hT : Tabs w) (h : RR w a R) (hlo : lo.size ≤ reach) (hd : SL (fun _ => True) w DA dn dc ps) (hx : XS w XA xn xc xs) :
    Calls Tryz.prog 3 #[.agg (sarr a R lo tt ea DA dn dc XA xn xc)] w fun e w' => e = .returned (.bool true) ∧ Below w.heap.size w w' := by
  obtain ⟨i0, hi0, hy0, hy1, hy2⟩ := info_parts info_value
  obtain ⟨j0, hj0, hw0, hw1, hw2⟩ := info_parts info_write
  obtain ⟨KA, kn, kc, CA, cn, cc⟩ := a
  have HT := Lib.hid hT
  have HRR := Lib.hid h
  have HLO := Lib.hid hlo
  have HD := Lib.hid hd
  have HX := Lib.hid hx
  have HXN : Hid (xn = xs.length) := hx.sr.ln
  have HDN : Hid (dn = ps.length) := hd.sr.ln
  have HCN : Hid (cn = R.cs.length) := h.cs.ln
  have HAW := Lib.hid fun (wr : World) (hb : Below w.heap.size w wr) => awake51_any wr (hT.step hb)
  clear hT h hlo hd hx
  obtain ⟨wa, hwa⟩ : ∃ wa, w.alloc (Obj.cells (sarr (⟨KA, kn, kc, CA, cn, cc⟩ : RA) R lo tt ea DA dn dc XA xn xc) 31) = wa := ⟨_, rfl⟩
  have BX : Hid (Blk wa w.heap.size 31 (sarr (⟨KA, kn, kc, CA, cn, cc⟩ : RA) R lo tt ea DA dn dc XA xn xc)) := by rw [← hwa]; exact Blk.new_at rfl
  have BE : Hid (Below w.heap.size w wa) := by rw [← hwa]; exact (Below.refl _ _).alloc (Nat.le_refl _) _
  have HWA := Lib.hid hwa
  clear hwa
  go_enter Tryz.func3, Tryz.ntmps3
  go_upto_region 1 with fail
  change Code.wp _ _ _ _ (w.alloc (Obj.cells (sarr (⟨KA, kn, kc, CA, cn, cc⟩ : RA) R lo tt ea DA dn dc XA xn xc) 31))
  rw [HWA.out]
  clear HWA
  have x0 : wa.cell? ⟨w.heap.size, 0, none⟩ = some (.string R.sp) := BX.out.cell 0
  have x1 : wa.cell? ⟨w.heap.size, 1, none⟩ = some (.slice KA kn kc) := BX.out.cell 1
  have x2 : wa.cell? ⟨w.heap.size, 2, none⟩ = some (.bool R.ha) := BX.out.cell 2
  have x3 : wa.cell? ⟨w.heap.size, 3, none⟩ = some (.int .i64 R.ep) := BX.out.cell 3
  have x4 : wa.cell? ⟨w.heap.size, 4, none⟩ = some (.int .i64 R.ver) := BX.out.cell 4
  have x5 : wa.cell? ⟨w.heap.size, 5, none⟩ = some (.slice CA cn cc) := BX.out.cell 5
  have x6 : wa.cell? ⟨w.heap.size, 6, none⟩ = some (.string lo) := BX.out.cell 6
  have x7 : wa.cell? ⟨w.heap.size, 7, none⟩ = some (.int .i64 tt) := BX.out.cell 7
  have x8 : wa.cell? ⟨w.heap.size, 8, none⟩ = some (.slice DA dn dc) := BX.out.cell 8
  have x9 : wa.cell? ⟨w.heap.size, 9, none⟩ = some (.slice XA xn xc) := BX.out.cell 9
  have x10 : wa.cell? ⟨w.heap.size, 10, none⟩ = some (.int .i64 ea) := BX.out.cell 10
  by_cases hcn : cn ≤ 64
  rotate_left
  · have hc2 : (64 : Int) < (cn : Int) := by omega
    clear hcn
    go_wp2_with fail
    refine (HAW.out _ BE.out).mono ?_
    rintro e wz ⟨rfl, hbz⟩
    have BZ := Lib.hid ((BE.out).step' hbz)
    clear hbz
    go_wp2_with fail
    go_ret
    exact ⟨rfl, BZ.out⟩
  obtain ⟨re, hre⟩ : ∃ re, routE R = re := ⟨_, rfl⟩
  have HV := rvalid49_any R (⟨KA, kn, kc, CA, cn, cc⟩ : RA) wa (HRR.out.step BE.out)
  rw [hre] at HV
  have HV2 := Lib.hid HV
  have HRE := Lib.hid hre
  clear hre HV
  have hcn2 : decide ((64 : Int) < (cn : Int)) = false := by simp; omega
  clear hcn
  go_wp2_with fail
  refine HV2.out.mono ?_
  rintro e w1 ⟨rfl, hb⟩
  replace BX := Lib.hid (BX.out.step hb)
  replace BE := Lib.hid (BE.out.step' hb)
  clear x0 x1 x2 x3 x4 x5 x6 x7 x8 x9 x10
  clear hb HV2
  have x0 : w1.cell? ⟨w.heap.size, 0, none⟩ = some (.string R.sp) := BX.out.cell 0
  have x1 : w1.cell? ⟨w.heap.size, 1, none⟩ = some (.slice KA kn kc) := BX.out.cell 1
  have x2 : w1.cell? ⟨w.heap.size, 2, none⟩ = some (.bool R.ha) := BX.out.cell 2
  have x3 : w1.cell? ⟨w.heap.size, 3, none⟩ = some (.int .i64 R.ep) := BX.out.cell 3
  have x4 : w1.cell? ⟨w.heap.size, 4, none⟩ = some (.int .i64 R.ver) := BX.out.cell 4
  have x5 : w1.cell? ⟨w.heap.size, 5, none⟩ = some (.slice CA cn cc) := BX.out.cell 5
  have x6 : w1.cell? ⟨w.heap.size, 6, none⟩ = some (.string lo) := BX.out.cell 6
  have x7 : w1.cell? ⟨w.heap.size, 7, none⟩ = some (.int .i64 tt) := BX.out.cell 7
  have x8 : w1.cell? ⟨w.heap.size, 8, none⟩ = some (.slice DA dn dc) := BX.out.cell 8
  have x9 : w1.cell? ⟨w.heap.size, 9, none⟩ = some (.slice XA xn xc) := BX.out.cell 9
  have x10 : w1.cell? ⟨w.heap.size, 10, none⟩ = some (.int .i64 ea) := BX.out.cell 10
  by_cases hr0 : re = 0
  rotate_left
  · have hrb : (re == 0) = false := by simpa using hr0
    go_wp2_with fail
    refine (HAW.out _ BE.out).mono ?_
    rintro e wz ⟨rfl, hbz⟩
    have BZ := Lib.hid ((BE.out).step' hbz)
    clear hbz
    go_wp2_with fail
    go_ret
    exact ⟨rfl, BZ.out⟩
  subst hr0
  have HVR := Lib.hid ((routE_iff R).1 HRE.out)
  have HKE := Lib.hid (keyE_partsM HVR.out.ke)
  by_cases hdn : dn ≤ 20
  rotate_left
  · have hd2 : (20 : Int) < (dn : Int) := by omega
    clear hdn
    go_wp2_with fail
    refine (HAW.out _ BE.out).mono ?_
    rintro e wz ⟨rfl, hbz⟩
    have BZ := Lib.hid ((BE.out).step' hbz)
    clear hbz
    go_wp2_with fail
    go_ret
    exact ⟨rfl, BZ.out⟩
  have hd2 : decide ((20 : Int) < (dn : Int)) = false := by simp; omega
  by_cases hxn : xn ≤ 30
  rotate_left
  · have hx2 : (30 : Int) < (xn : Int) := by omega
    clear hxn
    go_wp2_with fail
    refine (HAW.out _ BE.out).mono ?_
    rintro e wz ⟨rfl, hbz⟩
    have BZ := Lib.hid ((BE.out).step' hbz)
    clear hbz
    go_wp2_with fail
    go_ret
    exact ⟨rfl, BZ.out⟩
  have hx2 : decide ((30 : Int) < (xn : Int)) = false := by simp; omega
  go_wp2_with fail
  refine (distinct_any ps DA dn dc w1 (HD.out.step BE.out) (by omega)).mono ?_
  rintro e w2 ⟨db, rfl, hdist, hb⟩
  have HDI := Lib.hid hdist
  replace BX := Lib.hid (BX.out.step hb)
  replace BE := Lib.hid (BE.out.step' hb)
  clear x0 x1 x2 x3 x4 x5 x6 x7 x8 x9 x10
  clear hb hdist
  cases db
  · simp only [Bool.not_false]
    go_wp2_with fail
    refine (HAW.out _ BE.out).mono ?_
    rintro e wz ⟨rfl, hbz⟩
    have BZ := Lib.hid ((BE.out).step' hbz)
    clear hbz
    go_wp2_with fail
    go_ret
    exact ⟨rfl, BZ.out⟩
  simp only [Bool.not_true]
  have HDIS := Lib.hid (HDI.out rfl)
  clear HDI
  have x0 : w2.cell? ⟨w.heap.size, 0, none⟩ = some (.string R.sp) := BX.out.cell 0
  have x1 : w2.cell? ⟨w.heap.size, 1, none⟩ = some (.slice KA kn kc) := BX.out.cell 1
  have x2 : w2.cell? ⟨w.heap.size, 2, none⟩ = some (.bool R.ha) := BX.out.cell 2
  have x3 : w2.cell? ⟨w.heap.size, 3, none⟩ = some (.int .i64 R.ep) := BX.out.cell 3
  have x4 : w2.cell? ⟨w.heap.size, 4, none⟩ = some (.int .i64 R.ver) := BX.out.cell 4
  have x5 : w2.cell? ⟨w.heap.size, 5, none⟩ = some (.slice CA cn cc) := BX.out.cell 5
  have x6 : w2.cell? ⟨w.heap.size, 6, none⟩ = some (.string lo) := BX.out.cell 6
  have x7 : w2.cell? ⟨w.heap.size, 7, none⟩ = some (.int .i64 tt) := BX.out.cell 7
  have x8 : w2.cell? ⟨w.heap.size, 8, none⟩ = some (.slice DA dn dc) := BX.out.cell 8
  have x9 : w2.cell? ⟨w.heap.size, 9, none⟩ = some (.slice XA xn xc) := BX.out.cell 9
  have x10 : w2.cell? ⟨w.heap.size, 10, none⟩ = some (.int .i64 ea) := BX.out.cell 10
  have hSt := start_any R (⟨KA, kn, kc, CA, cn, cc⟩ : RA) lo tt w2 (HRR.out.step BE.out)
  obtain ⟨⟨M0, e0⟩, hst⟩ : ∃ z, startR R lo tt = z := ⟨_, rfl⟩
  have hok := startR_ok (R := R) (lo := lo) (t := tt)
  rw [hst] at hSt hok
  have HS := Lib.hid hSt
  have HOK := Lib.hid hok
  clear hSt hst hok
  go_wp2_with fail
  refine HS.out.mono ?_
  rintro e w3 ⟨rfl, hb⟩
  replace BX := Lib.hid (BX.out.step hb)
  replace BE := Lib.hid (BE.out.step' hb)
  clear x0 x1 x2 x3 x4 x5 x6 x7 x8 x9 x10
  clear hb HS
  have BXW := BX
  go_upto_region 4 with fail
  change Code.wp _ _ _ _ (w3.alloc (Obj.cells (marr MA.zero M0) 37))
  have BM : Hid (Blk (w3.alloc (Obj.cells (marr MA.zero M0) 37)) w3.heap.size 37 (marr MA.zero M0)) := Blk.new_at rfl
  replace BX := Lib.hid (BX.out.alloc (Obj.cells (marr MA.zero M0) 37))
  have HG1 : Hid (w.heap.size < w3.heap.size) := Lib.hid (by have := BX.out; have h2 := BE.out.size; have h3 : w.heap.size < (w3.alloc (Obj.cells (marr MA.zero M0) 37)).heap.size := this.lt; rcases Nat.lt_or_ge w.heap.size w3.heap.size with h4 | h4; exact h4; exact absurd BXW.out.lt (by omega))
  replace BE := Lib.hid (BE.out.alloc BE.out.size (Obj.cells (marr MA.zero M0) 37))
  generalize w3.alloc (Obj.cells (marr MA.zero M0) 37) = w4 at *
  generalize w3.heap.size = gm at *
  by_cases he0 : e0 = 0
  rotate_left
  · have heb : (e0 == 0) = false := by simpa using he0
    go_wp2_with fail
    refine (HAW.out _ BE.out).mono ?_
    rintro e wz ⟨rfl, hbz⟩
    have BZ := Lib.hid ((BE.out).step' hbz)
    clear hbz
    go_wp2_with fail
    go_ret
    exact ⟨rfl, BZ.out⟩
  subst he0
  have HSD := Lib.hid (HOK.out rfl)
  clear HOK BXW
  have HSP0 : Hid (M0.sp.size ≤ reach) := by rw [Hid, HSD.out.sp]; exact HRR.out.sp
  have HLO0 : Hid (M0.lo.size ≤ reach) := by rw [Hid, HSD.out.lo]; exact HLO.out
  have x0 : w4.cell? ⟨w.heap.size, 0, none⟩ = some (.string R.sp) := BX.out.cell 0
  have x1 : w4.cell? ⟨w.heap.size, 1, none⟩ = some (.slice KA kn kc) := BX.out.cell 1
  have x2 : w4.cell? ⟨w.heap.size, 2, none⟩ = some (.bool R.ha) := BX.out.cell 2
  have x3 : w4.cell? ⟨w.heap.size, 3, none⟩ = some (.int .i64 R.ep) := BX.out.cell 3
  have x4 : w4.cell? ⟨w.heap.size, 4, none⟩ = some (.int .i64 R.ver) := BX.out.cell 4
  have x5 : w4.cell? ⟨w.heap.size, 5, none⟩ = some (.slice CA cn cc) := BX.out.cell 5
  have x6 : w4.cell? ⟨w.heap.size, 6, none⟩ = some (.string lo) := BX.out.cell 6
  have x7 : w4.cell? ⟨w.heap.size, 7, none⟩ = some (.int .i64 tt) := BX.out.cell 7
  have x8 : w4.cell? ⟨w.heap.size, 8, none⟩ = some (.slice DA dn dc) := BX.out.cell 8
  have x9 : w4.cell? ⟨w.heap.size, 9, none⟩ = some (.slice XA xn xc) := BX.out.cell 9
  have x10 : w4.cell? ⟨w.heap.size, 10, none⟩ = some (.int .i64 ea) := BX.out.cell 10
  have HCO := Lib.hid (mgcopy_any M0 R (⟨KA, kn, kc, CA, cn, cc⟩ : RA) ps DA dn dc w4 (HT.out.step BE.out) (HRR.out.step BE.out) HKE.out.1 (HD.out.step BE.out) (by omega) HSP0.out HSD.out.st HSD.out.cp HSD.out.ch)
  go_wp2_with (refine wpList_load_row rfl 37 _ rfl gm rfl _ _ _ _ BM.out Tryz.underlying37 rfl (by rw [sizeM]; rfl) ?_)
  refine HCO.out.mono ?_
  rintro e w5 ⟨mb, rfl, hmr, hb⟩
  replace BX := Lib.hid (BX.out.step hb)
  replace BM := Lib.hid (BM.out.step hb)
  replace BE := Lib.hid (BE.out.step' hb)
  clear x0 x1 x2 x3 x4 x5 x6 x7 x8 x9 x10
  go_upto_region 7 with (refine wpList_store_row rfl 37 _ _ rfl gm (marr mb (mvC M0 (copyL R M0.sp M0.lo M0.hi (ps.map Prod.snd)) [])) rfl rfl 37 _ BM.out (by rw [sizeM]; rfl) rfl (marr_all _ _) ?_)
  have HMR : Hid (MR (w5.setRow gm (marr mb (mvC M0 (copyL R M0.sp M0.lo M0.hi (ps.map Prod.snd)) []))) mb (mvC M0 (copyL R M0.sp M0.lo M0.hi (ps.map Prod.snd)) [])) := MR.row_move hmr BM.out (by have := HG1.out; omega) _
  have HSL : Hid (SL (fun _ => True) (w5.setRow gm (marr mb (mvC M0 (copyL R M0.sp M0.lo M0.hi (ps.map Prod.snd)) []))) DA dn dc ps) := (HD.out.step BE.out).row_move BM.out (by have := HG1.out; omega) _
  replace BX := Lib.hid (BX.out.row_far (by have := HG1.out; omega : w.heap.size ≠ gm) (marr mb (mvC M0 (copyL R M0.sp M0.lo M0.hi (ps.map Prod.snd)) [])))
  replace BE := Lib.hid (below_row BE.out (by have := HG1.out; omega : w.heap.size ≤ gm) (marr mb (mvC M0 (copyL R M0.sp M0.lo M0.hi (ps.map Prod.snd)) [])))
  replace BM := Lib.hid (BM.out.row (marr mb (mvC M0 (copyL R M0.sp M0.lo M0.hi (ps.map Prod.snd)) [])))
  clear hmr hb HCO
  generalize w5.setRow gm (marr mb (mvC M0 (copyL R M0.sp M0.lo M0.hi (ps.map Prod.snd)) [])) = w6 at *
  have x0 : w6.cell? ⟨w.heap.size, 0, none⟩ = some (.string R.sp) := BX.out.cell 0
  have x1 : w6.cell? ⟨w.heap.size, 1, none⟩ = some (.slice KA kn kc) := BX.out.cell 1
  have x2 : w6.cell? ⟨w.heap.size, 2, none⟩ = some (.bool R.ha) := BX.out.cell 2
  have x3 : w6.cell? ⟨w.heap.size, 3, none⟩ = some (.int .i64 R.ep) := BX.out.cell 3
  have x4 : w6.cell? ⟨w.heap.size, 4, none⟩ = some (.int .i64 R.ver) := BX.out.cell 4
  have x5 : w6.cell? ⟨w.heap.size, 5, none⟩ = some (.slice CA cn cc) := BX.out.cell 5
  have x6 : w6.cell? ⟨w.heap.size, 6, none⟩ = some (.string lo) := BX.out.cell 6
  have x7 : w6.cell? ⟨w.heap.size, 7, none⟩ = some (.int .i64 tt) := BX.out.cell 7
  have x8 : w6.cell? ⟨w.heap.size, 8, none⟩ = some (.slice DA dn dc) := BX.out.cell 8
  have x9 : w6.cell? ⟨w.heap.size, 9, none⟩ = some (.slice XA xn xc) := BX.out.cell 9
  have x10 : w6.cell? ⟨w.heap.size, 10, none⟩ = some (.int .i64 ea) := BX.out.cell 10
  have x8b : (w6.alloc (Obj.cells #[] 46)).cell? ⟨w.heap.size, 8, none⟩ = some (.slice DA dn dc) := (BX.out.alloc (Obj.cells #[] 46)).cell 8
  have HOE := Lib.hid (own_empty w6 46 5 (Nat.le_refl w6.heap.size))
  have HRD := Lib.hid ((HSL.out.sr.alloc (Obj.cells #[] 46)).reads recV_length (by decide))
  have hdn3 : dn ≤ 20 := hdn
  go_wp2_with (at_builtin; refine wpList_append_any _ rfl _ _ 28 rfl w6.heap.size 46 i0 VC.zero.val 5 80 Tryz.underlying28 hi0 hy0 hy1 hy2 rfl (by decide) (.slice (some ⟨w6.heap.size, 0, none⟩) 0 0) 0 [] rfl HOE.out _ _ dn _ (flat recV ps) rfl HRD.out (flat_oneV ps) (by unfold maxLen; omega) (by omega) (by simp) ?_)
  intro v5 wl hown hgr hat
  have HE0 : Hid ((.slice (some ⟨w6.heap.size, 0, none⟩) 0 0 : Value).ownBlock = some w6.heap.size) := rfl
  have hb6 : Below w6.heap.size w6 wl := ((Below.refl _ _).alloc (Nat.le_refl _) _).grown hgr (by simp) (fun k hk => by rw [HE0.out] at hk; injection hk with hk; omega)
  (try simp only [Nat.zero_add, List.nil_append] at hown)
  obtain ⟨A5, c5, hv5, hsl5⟩ := SL.of_own (F := fun _ => True) hown HDN.out.symm (by unfold reach; omega) (fun _ _ => trivial) (fun q hq => ((HSL.out.rv q hq).step hb6))
  subst hv5
  have hst0 : Story R M0.sp M0.lo M0.hi (ps.map Prod.snd) ([] ++ (copyL R M0.sp M0.lo M0.hi (ps.map Prod.snd) ++ [])) := by
    rw [List.nil_append, List.append_nil]
    exact Story.start HDIS.out
  have hcl := copyL_len R M0.sp M0.lo M0.hi (ps.map Prod.snd)
  rw [List.length_map] at hcl
  have C0 : Hid (CarI w wl.heap.size gm w.heap.size (sarr (⟨KA, kn, kc, CA, cn, cc⟩ : RA) R lo tt ea DA dn dc XA xn xc) R M0 0 A5 dn c5 ps (.slice none 0 0) [] mb (copyL R M0.sp M0.lo M0.hi (ps.map Prod.snd)) [] wl) := Lib.hid ⟨BE.out.step' hb6, Nat.le_refl _, BX.out.step hb6, BM.out.step hb6, HMR.out.step hb6, hsl5.mono (fun _ _ => by simp [Value.ownBlock]), by omega, ⟨own_nil _ _ _ _, fun p hp => by simp at hp, Nat.le_trans BE.out.size hb6.size, BE.out.step' hb6⟩, hst0, by have := HDN.out; simp; omega⟩
  have HG2 : Hid (gm < wl.heap.size) := (BM.out.step hb6).lt
  clear hown hgr hat hb6 hsl5 hst0 hcl x8b HOE HRD HSL HMR BX BM BE HE0
  clear x0 x1 x2 x3 x4 x5 x6 x7 x8 x9 x10
  go_wp2_with fail
  go_loopw [4, 5, 6, 7, 8] (fun u4 u5 u6 u7 u8 wr => ∃ (i : Nat) (A5 : Option Addr) (n5 c5 : Nat) (ds : List PV) (al : List PW) (mb : MA) (cp ch : List Wt), i ≤ xn ∧ u8 = .int .i64 i ∧ u5 = .slice A5 n5 c5 ∧ CarI w wl.heap.size gm w.heap.size (sarr (⟨KA, kn, kc, CA, cn, cc⟩ : RA) R lo tt ea DA dn dc XA xn xc) R M0 i A5 n5 c5 ds u6 al mb cp ch wr) (fun _ _ _ _ u8 _ => xn - (intOf u8).toNat)
  case atStart => exact ⟨0, A5, dn, c5, ps, [], mb, _, [], Nat.zero_le _, rfl, rfl, C0.out⟩
  case round =>
    clear C0
    obtain ⟨i, A5, n5, c5, ds, al, mb, cp, ch, hile, rfl, rfl, hC⟩ := hrel
    have C := Lib.hid hC
    clear hC
    by_cases hlt : i < xn
    · obtain ⟨⟨cs, x⟩, hq⟩ : ∃ q, xs[i]? = some q := ⟨_, List.getElem?_eq_getElem (by have := HXN.out; omega)⟩
      have HXQ := Lib.hid hq
      have i0' : (0 : Int) ≤ (i : Int) := by omega
      have i1' : (i : Int) < (xn : Int) := by omega
      clear hq
      have x0 : wr.cell? ⟨w.heap.size, 0, none⟩ = some (.string R.sp) := C.out.bx.cell 0
      have x1 : wr.cell? ⟨w.heap.size, 1, none⟩ = some (.slice KA kn kc) := C.out.bx.cell 1
      have x2 : wr.cell? ⟨w.heap.size, 2, none⟩ = some (.bool R.ha) := C.out.bx.cell 2
      have x3 : wr.cell? ⟨w.heap.size, 3, none⟩ = some (.int .i64 R.ep) := C.out.bx.cell 3
      have x4 : wr.cell? ⟨w.heap.size, 4, none⟩ = some (.int .i64 R.ver) := C.out.bx.cell 4
      have x5 : wr.cell? ⟨w.heap.size, 5, none⟩ = some (.slice CA cn cc) := C.out.bx.cell 5
      have x6 : wr.cell? ⟨w.heap.size, 6, none⟩ = some (.string lo) := C.out.bx.cell 6
      have x7 : wr.cell? ⟨w.heap.size, 7, none⟩ = some (.int .i64 tt) := C.out.bx.cell 7
      have x8 : wr.cell? ⟨w.heap.size, 8, none⟩ = some (.slice DA dn dc) := C.out.bx.cell 8
      have x9 : wr.cell? ⟨w.heap.size, 9, none⟩ = some (.slice XA xn xc) := C.out.bx.cell 9
      have x10 : wr.cell? ⟨w.heap.size, 10, none⟩ = some (.int .i64 ea) := C.out.bx.cell 10
      by_cases hea : (i : Int) = ea
      case' pos =>
        have y10 : wr.cell? ⟨w.heap.size, 10, none⟩ = some (.int .i64 (i : Int)) := by rw [hea]; exact x10
        clear x10 hea
        have HLD := Lib.hid (load_any (mvC M0 cp ch) mb wr C.out.mr rfl (by have := C.out.ln; show cp.length ≤ 1000; omega) (by have := C.out.ln; show ch.length ≤ 1000; omega))
        have CBM := Lib.hid C.out.bm
        go_wp2_with (refine wpList_load_row rfl 37 _ rfl gm rfl _ _ _ _ CBM.out Tryz.underlying37 rfl (by rw [sizeM]; rfl) ?_)
        refine HLD.out.mono ?_
        rintro e w8 ⟨LA, ln, lc, ls, rfl, hls, hws, hb⟩
        have C1 := Lib.hid (C.out.step hb)
        have HLS := Lib.hid hls
        have HWS := Lib.hid hws
        have HB8 := Lib.hid hb
        have HLN : Hid (ln = ls.length) := hws.sr.ln
        have hlsn : ls.length = cp.length + ch.length := by have := congrArg List.length hls; rw [List.length_map, List.length_append] at this; exact this
        have hln3 : ln ≤ 60 := by have := HLN.out; have := C.out.ln; omega
        have hal3 : al.length ≤ 60 := by have := C.out.ln; omega
        clear hls hws hb HLD CBM hlsn
        go_upto_region 16 with (refine wpList_store_row rfl 37 _ _ rfl gm (marr MA.zero (mvC M0 [] [])) rfl rfl 37 _ C1.out.bm (by rw [sizeM]; rfl) rfl (marr_all _ _) ?_)
        have HOW := Lib.hid (C1.out.vs.row_move C1.out.bm (by have := HG1.out; omega) (by have := HG1.out; omega) HG2.out (marr MA.zero (mvC M0 [] []))).own
        have RDL := Lib.hid (((HWS.out.mono (fun _ _ => trivial)).row_move C1.out.bm (by have := HG1.out; omega) (marr MA.zero (mvC M0 [] []))).sr.reads recW_length (by decide))
        have HLO6 : Hid (wl.heap.size ≤ (w8.setRow gm (marr MA.zero (mvC M0 [] []))).heap.size) := by rw [Hid, size_setRow]; exact C1.out.sz
        go_wp2_with (at_builtin; refine wpList_append_any _ rfl _ _ 29 rfl wl.heap.size 68 j0 _ 78 1168 Tryz.underlying29 hj0 hw0 hw1 hw2 rfl (by decide) u6 al.length (flat recW al) rfl HOW.out _ _ ln _ (flat recW ls) rfl RDL.out (flat_oneW ls) (by unfold maxLen; omega) (by omega) HLO6.out ?_)
        intro u6 wr hown hgr hat
        obtain ⟨al, mb, cp, ch, hC2⟩ : ∃ al mb cp ch, CarI w wl.heap.size gm w.heap.size (sarr (⟨KA, kn, kc, CA, cn, cc⟩ : RA) R lo tt ea DA dn dc XA xn xc) R M0 i A5 n5 c5 ds u6 al mb cp ch wr := ⟨_, _, _, _, CarI.load C.out (by have := HG1.out; omega) (by have := HG1.out; omega) HG2.out (by have := HG1.out; omega) (by have := HG1.out; have := HG2.out; omega) HB8.out HWS.out HLS.out (by rw [HLN.out]) hown hgr (by rw [size_setRow]; exact hat)⟩
        clear HB8 HWS HLS HLN hown hgr hat C C1 HOW RDL HLO6 hln3 hal3 y10 x0 x1 x2 x3 x4 x5 x6 x7 x8 x9
        have C := Lib.hid hC2
        clear hC2
        have x0 : wr.cell? ⟨w.heap.size, 0, none⟩ = some (.string R.sp) := C.out.bx.cell 0
        have x1 : wr.cell? ⟨w.heap.size, 1, none⟩ = some (.slice KA kn kc) := C.out.bx.cell 1
        have x2 : wr.cell? ⟨w.heap.size, 2, none⟩ = some (.bool R.ha) := C.out.bx.cell 2
        have x3 : wr.cell? ⟨w.heap.size, 3, none⟩ = some (.int .i64 R.ep) := C.out.bx.cell 3
        have x4 : wr.cell? ⟨w.heap.size, 4, none⟩ = some (.int .i64 R.ver) := C.out.bx.cell 4
        have x5 : wr.cell? ⟨w.heap.size, 5, none⟩ = some (.slice CA cn cc) := C.out.bx.cell 5
        have x6 : wr.cell? ⟨w.heap.size, 6, none⟩ = some (.string lo) := C.out.bx.cell 6
        have x7 : wr.cell? ⟨w.heap.size, 7, none⟩ = some (.int .i64 tt) := C.out.bx.cell 7
        have x8 : wr.cell? ⟨w.heap.size, 8, none⟩ = some (.slice DA dn dc) := C.out.bx.cell 8
        have x9 : wr.cell? ⟨w.heap.size, 9, none⟩ = some (.slice XA xn xc) := C.out.bx.cell 9
        have x10 : True := trivial
        go_upto_region 19 with fail
      case' neg =>
        have heb : ((i : Int) == ea) = false := by simpa using hea
        go_upto_region 19 with fail
        clear heb hea
      all_goals
        clear x0 x1 x2 x3 x4 x5 x6 x7 x8 x9 x10
        obtain ⟨b, off, rfl, hbl, hrg, hiw⟩ := (HX.out.step C.out.be).range HXQ.out
        have hbl0 : b < w.heap.size := by
          obtain ⟨b', off', e', hl', _⟩ := HX.out.range HXQ.out
          cases e'
          exact hl'
        have HBG : Hid (b ≠ gm) := by have := HG1.out; unfold Hid; omega
        have RG : Hid (wr.rangeAt b (off + i * 78) cs) := hrg
        have IW : Hid (IsW wr cs x) := hiw
        have HCL : Hid (cs.length = 78) := hiw.len
        clear hrg hiw hbl hbl0
        have B : Hid (Below wr.heap.size wr wr.drew) := Lib.hid ((Below.refl wr.heap.size wr).drew)
        have KSS : Hid (∀ w' : World, Below wr.heap.size wr w' → (fun w' => Blk w' gm 37 (marr mb (mvC M0 cp ch)) ∧ w'.rangeAt b (off + i * 78) cs ∧ w'.cell? ⟨w.heap.size, 0, none⟩ = some (.string R.sp) ∧ w'.cell? ⟨w.heap.size, 1, none⟩ = some (.slice KA kn kc) ∧ w'.cell? ⟨w.heap.size, 2, none⟩ = some (.bool R.ha) ∧ w'.cell? ⟨w.heap.size, 3, none⟩ = some (.int .i64 R.ep) ∧ w'.cell? ⟨w.heap.size, 4, none⟩ = some (.int .i64 R.ver) ∧ w'.cell? ⟨w.heap.size, 5, none⟩ = some (.slice CA cn cc) ∧ w'.cell? ⟨w.heap.size, 9, none⟩ = some (.slice (some ⟨b, off, none⟩) xn xc)) w') := Lib.hid fun w' hb => ⟨C.out.bm.step hb, rangeAt_step RG.out hb, (C.out.bx.step hb).cell 0, (C.out.bx.step hb).cell 1, (C.out.bx.step hb).cell 2, (C.out.bx.step hb).cell 3, (C.out.bx.step hb).cell 4, (C.out.bx.step hb).cell 5, (C.out.bx.step hb).cell 9⟩
        refine wp_region_noPanic ?_
        refine wp_region_held_drew (S := (fun w' => Blk w' gm 37 (marr mb (mvC M0 cp ch)) ∧ w'.rangeAt b (off + i * 78) cs ∧ w'.cell? ⟨w.heap.size, 0, none⟩ = some (.string R.sp) ∧ w'.cell? ⟨w.heap.size, 1, none⟩ = some (.slice KA kn kc) ∧ w'.cell? ⟨w.heap.size, 2, none⟩ = some (.bool R.ha) ∧ w'.cell? ⟨w.heap.size, 3, none⟩ = some (.int .i64 R.ep) ∧ w'.cell? ⟨w.heap.size, 4, none⟩ = some (.int .i64 R.ver) ∧ w'.cell? ⟨w.heap.size, 5, none⟩ = some (.slice CA cn cc) ∧ w'.cell? ⟨w.heap.size, 9, none⟩ = some (.slice (some ⟨b, off, none⟩) xn xc))) (by kernel_rfl) ?_ (fun hHeld => ?_)
        · (try dsimp only); exact KSS.out _ B.out
        generalize wr.drew = v0 at *
        refine wpAnyH_take (i := 0) (v := .agg (marr mb (mvC M0 cp ch))) (take_at rfl) (by kernel_rfl) (by kernel_rfl) (by kernel_rfl) (fun _ _ _ h => h) (Or.inl ⟨by rfl, ?_⟩) (by assumption) ?_
        · intro w' hSw; exact exec_row rfl rfl hSw.1 Tryz.underlying37 rfl (by rw [sizeM]; rfl)
        (try simp only [Act.put, List.setIfInBounds_toArray, List.set_cons_zero, List.set_cons_succ])
        refine wpAnyH_take (i := 1) (v := ?_) (take_at rfl) (by kernel_rfl) (by kernel_rfl) (by kernel_rfl) (fun _ _ _ h => h) (Or.inl ⟨by rfl, ?_⟩) (by assumption) ?_
        rotate_left
        · intro w' hSw; (try dsimp only at hSw); go_simp; (try with_reducible rfl)
        (try simp only [Act.put, List.setIfInBounds_toArray, List.set_cons_zero, List.set_cons_succ])
        refine wpAnyH_take (i := 2) (v := ?_) (take_at rfl) (by kernel_rfl) (by kernel_rfl) (by kernel_rfl) (fun _ _ _ h => h) (Or.inl ⟨by rfl, ?_⟩) (by assumption) ?_
        rotate_left
        · intro w' hSw; (try dsimp only at hSw); go_simp; (try with_reducible rfl)
        (try simp only [Act.put, List.setIfInBounds_toArray, List.set_cons_zero, List.set_cons_succ])
        refine wpAnyH_take (i := 3) (v := ?_) (take_at rfl) (by kernel_rfl) (by kernel_rfl) (by kernel_rfl) (fun _ _ _ h => h) (Or.inl ⟨by rfl, ?_⟩) (by assumption) ?_
        rotate_left
        · intro w' hSw; (try dsimp only at hSw); go_simp; (try with_reducible rfl)
        (try simp only [Act.put, List.setIfInBounds_toArray, List.set_cons_zero, List.set_cons_succ])
        refine wpAnyH_take (i := 4) (v := ?_) (take_at rfl) (by kernel_rfl) (by kernel_rfl) (by kernel_rfl) (fun _ _ _ h => h) (Or.inl ⟨by rfl, ?_⟩) (by assumption) ?_
        rotate_left
        · intro w' hSw; (try dsimp only at hSw); go_simp; (try with_reducible rfl)
        (try simp only [Act.put, List.setIfInBounds_toArray, List.set_cons_zero, List.set_cons_succ])
        refine wpAnyH_take (i := 5) (v := ?_) (take_at rfl) (by kernel_rfl) (by kernel_rfl) (by kernel_rfl) (fun _ _ _ h => h) (Or.inl ⟨by rfl, ?_⟩) (by assumption) ?_
        rotate_left
        · intro w' hSw; (try dsimp only at hSw); go_simp; (try with_reducible rfl)
        (try simp only [Act.put, List.setIfInBounds_toArray, List.set_cons_zero, List.set_cons_succ])
        refine wpAnyH_take (i := 6) (v := ?_) (take_at rfl) (by kernel_rfl) (by kernel_rfl) (by kernel_rfl) (fun _ _ _ h => h) (Or.inl ⟨by rfl, ?_⟩) (by assumption) ?_
        rotate_left
        · intro w' hSw; (try dsimp only at hSw); go_simp; (try with_reducible rfl)
        (try simp only [Act.put, List.setIfInBounds_toArray, List.set_cons_zero, List.set_cons_succ])
        refine wpAnyH_take (i := 7) (v := ?_) (take_at rfl) (by kernel_rfl) (by kernel_rfl) (by kernel_rfl) (fun _ _ _ h => h) (Or.inl ⟨by rfl, ?_⟩) (by assumption) ?_
        rotate_left
        · intro w' hSw; (try dsimp only at hSw); go_simp; (try with_reducible rfl)
        (try simp only [Act.put, List.setIfInBounds_toArray, List.set_cons_zero, List.set_cons_succ])
        refine wpAnyH_take (i := 8) (v := .agg cs.toArray) (take_at rfl) (by kernel_rfl) (by kernel_rfl) (by kernel_rfl) (fun _ _ _ h => h) (Or.inl ⟨by rfl, ?_⟩) (by assumption) ?_
        · intro w' hSw; exact exec_mid rfl rfl hSw.2.1 Tryz.underlying68 rfl (by rw [sizeW, HCL.out])
        (try simp only [Act.put, List.setIfInBounds_toArray, List.set_cons_zero, List.set_cons_succ])
        refine wpAnyH_ready (rs := [9]) (by kernel_rfl) (by simp) ?_
        refine AllReadyH.cons (take_at rfl) (fun K hK => ?_) AllReadyH.nil
        go_simp
        refine (fits51_any (mvC M0 cp ch) mb R (⟨KA, kn, kc, CA, cn, cc⟩ : RA) ds A5 n5 c5 cs x v0 (HRR.out.step (C.out.be.step' B.out)) HKE.out.1 HKE.out.2 HLO0.out ((C.out.sl.mono fun _ _ => trivial).step B.out) (by have := C.out.nl; omega) (IW.out.step B.out)).mono ?_
        rintro e3 y1 ⟨fb, rfl, hfit, hb⟩
        have HFIT := Lib.hid hfit
        clear hfit
        replace B := Lib.hid (B.out.step' hb)
        clear hb
        (try go_wp2_with fail)
        refine hK.out _ _ ?_ (fun hHeld2 => ?_)
        · (try dsimp only); exact KSS.out _ B.out
        clear hK K hHeld
        have hHeld := hHeld2
        clear hHeld2
        (try simp only [Act.put, List.setIfInBounds_toArray, List.set_cons_zero, List.set_cons_succ])
        refine wpAnyH_take (i := 10) (v := ?_) (take_at rfl) (by kernel_rfl) (by kernel_rfl) (by kernel_rfl) (fun _ _ _ h => h) (Or.inl ⟨by rfl, ?_⟩) (by assumption) ?_
        rotate_left
        · intro w' hSw; (try dsimp only at hSw); go_simp; (try with_reducible rfl)
        (try simp only [Act.put, List.setIfInBounds_toArray, List.set_cons_zero, List.set_cons_succ])
        refine wpAnyH_done (by kernel_rfl) ?_ _
        refine NoPanic.normal ?_
        have C2 := Lib.hid (C.out.step B.out)
        have RG2 := Lib.hid (rangeAt_step RG.out B.out)
        have IW2 := Lib.hid (IW.out.step B.out)
        clear B hHeld KSS C RG IW
        cases fb
        · simp only [Bool.not_false]
          go_wp2_with fail
          go_roundw
          case rel => exact ⟨i + 1, A5, n5, c5, ds, al, mb, cp, ch, by omega, by go_num, rfl, C2.out.next⟩
          case measure => simp [intOf]; omega
        simp only [Bool.not_true]
        have HF := Lib.hid (HFIT.out rfl)
        clear HFIT
        have z9 : y1.cell? ⟨w.heap.size, 9, none⟩ = some (.slice (some ⟨b, off, none⟩) xn xc) := C2.out.bx.cell 9
        have HRVD : Hid (RV (fun b => Value.ownBlock u6 ≠ some b) y1 x.dc x.doc) := (((HX.out.is _ (List.mem_of_getElem? HXQ.out)).doc.lt.step C2.out.be)).mono fun b hb e => by have := own_ge C2.out.vs.own b e; have := C2.out.vs.lo; have := hb.2; omega
        have HN5 : Hid (n5 ≤ 900) := by have := C2.out.nl; unfold Hid; omega
        go_wp2_with (refine wpList_load_mid rfl 68 _ rfl b (off + i * 78) rfl _ _ RG2.out Tryz.underlying68 rfl (by rw [sizeW, HCL.out]) ?_)
        refine (carry_any (F := fun b => Value.ownBlock u6 ≠ some b) ds A5 n5 c5 cs x y1 C2.out.sl HN5.out IW2.out HRVD.out).mono ?_
        rintro e w11 ⟨A6, n6, c6, es, rfl, hes, hsl, hb⟩
        have HES := Lib.hid hes
        have HSL6 := Lib.hid hsl
        have HB11 := Lib.hid hb
        have C3 := Lib.hid (C2.out.step hb)
        have RG3 := Lib.hid (rangeAt_step RG2.out hb)
        have IW3 := Lib.hid (IW2.out.step hb)
        clear hes hsl hb RG2 IW2 z9 HRVD HN5
        go_upto_region 21 with fail
        have B : Hid (Below w11.heap.size w11 w11.drew) := Lib.hid ((Below.refl w11.heap.size w11).drew)
        have KSS : Hid (∀ w' : World, Below w11.heap.size w11 w' → (fun w' => w'.rangeAt b (off + i * 78) cs ∧ w'.cell? ⟨w.heap.size, 0, none⟩ = some (.string R.sp) ∧ w'.cell? ⟨w.heap.size, 1, none⟩ = some (.slice KA kn kc) ∧ w'.cell? ⟨w.heap.size, 2, none⟩ = some (.bool R.ha) ∧ w'.cell? ⟨w.heap.size, 3, none⟩ = some (.int .i64 R.ep) ∧ w'.cell? ⟨w.heap.size, 4, none⟩ = some (.int .i64 R.ver) ∧ w'.cell? ⟨w.heap.size, 5, none⟩ = some (.slice CA cn cc) ∧ w'.cell? ⟨w.heap.size, 9, none⟩ = some (.slice (some ⟨b, off, none⟩) xn xc)) w') := Lib.hid fun w' hb => ⟨rangeAt_step RG3.out hb, (C3.out.bx.step hb).cell 0, (C3.out.bx.step hb).cell 1, (C3.out.bx.step hb).cell 2, (C3.out.bx.step hb).cell 3, (C3.out.bx.step hb).cell 4, (C3.out.bx.step hb).cell 5, (C3.out.bx.step hb).cell 9⟩
        refine wp_region_noPanic ?_
        refine wp_region_held_drew (S := (fun w' => w'.rangeAt b (off + i * 78) cs ∧ w'.cell? ⟨w.heap.size, 0, none⟩ = some (.string R.sp) ∧ w'.cell? ⟨w.heap.size, 1, none⟩ = some (.slice KA kn kc) ∧ w'.cell? ⟨w.heap.size, 2, none⟩ = some (.bool R.ha) ∧ w'.cell? ⟨w.heap.size, 3, none⟩ = some (.int .i64 R.ep) ∧ w'.cell? ⟨w.heap.size, 4, none⟩ = some (.int .i64 R.ver) ∧ w'.cell? ⟨w.heap.size, 5, none⟩ = some (.slice CA cn cc) ∧ w'.cell? ⟨w.heap.size, 9, none⟩ = some (.slice (some ⟨b, off, none⟩) xn xc))) (by kernel_rfl) ?_ (fun hHeld => ?_)
        · (try dsimp only); exact KSS.out _ B.out
        generalize w11.drew = v0 at *
        refine wpAnyH_take (i := 1) (v := ?_) (take_at rfl) (by kernel_rfl) (by kernel_rfl) (by kernel_rfl) (fun _ _ _ h => h) (Or.inl ⟨by rfl, ?_⟩) (by assumption) ?_
        rotate_left
        · intro w' hSw; (try dsimp only at hSw); go_simp; (try with_reducible rfl)
        (try simp only [Act.put, List.setIfInBounds_toArray, List.set_cons_zero, List.set_cons_succ])
        refine wpAnyH_take (i := 2) (v := ?_) (take_at rfl) (by kernel_rfl) (by kernel_rfl) (by kernel_rfl) (fun _ _ _ h => h) (Or.inl ⟨by rfl, ?_⟩) (by assumption) ?_
        rotate_left
        · intro w' hSw; (try dsimp only at hSw); go_simp; (try with_reducible rfl)
        (try simp only [Act.put, List.setIfInBounds_toArray, List.set_cons_zero, List.set_cons_succ])
        refine wpAnyH_take (i := 3) (v := ?_) (take_at rfl) (by kernel_rfl) (by kernel_rfl) (by kernel_rfl) (fun _ _ _ h => h) (Or.inl ⟨by rfl, ?_⟩) (by assumption) ?_
        rotate_left
        · intro w' hSw; (try dsimp only at hSw); go_simp; (try with_reducible rfl)
        (try simp only [Act.put, List.setIfInBounds_toArray, List.set_cons_zero, List.set_cons_succ])
        refine wpAnyH_take (i := 4) (v := ?_) (take_at rfl) (by kernel_rfl) (by kernel_rfl) (by kernel_rfl) (fun _ _ _ h => h) (Or.inl ⟨by rfl, ?_⟩) (by assumption) ?_
        rotate_left
        · intro w' hSw; (try dsimp only at hSw); go_simp; (try with_reducible rfl)
        (try simp only [Act.put, List.setIfInBounds_toArray, List.set_cons_zero, List.set_cons_succ])
        refine wpAnyH_take (i := 5) (v := ?_) (take_at rfl) (by kernel_rfl) (by kernel_rfl) (by kernel_rfl) (fun _ _ _ h => h) (Or.inl ⟨by rfl, ?_⟩) (by assumption) ?_
        rotate_left
        · intro w' hSw; (try dsimp only at hSw); go_simp; (try with_reducible rfl)
        (try simp only [Act.put, List.setIfInBounds_toArray, List.set_cons_zero, List.set_cons_succ])
        refine wpAnyH_take (i := 6) (v := ?_) (take_at rfl) (by kernel_rfl) (by kernel_rfl) (by kernel_rfl) (fun _ _ _ h => h) (Or.inl ⟨by rfl, ?_⟩) (by assumption) ?_
        rotate_left
        · intro w' hSw; (try dsimp only at hSw); go_simp; (try with_reducible rfl)
        (try simp only [Act.put, List.setIfInBounds_toArray, List.set_cons_zero, List.set_cons_succ])
        refine wpAnyH_take (i := 7) (v := .agg cs.toArray) (take_at rfl) (by kernel_rfl) (by kernel_rfl) (by kernel_rfl) (fun _ _ _ h => h) (Or.inl ⟨by rfl, ?_⟩) (by assumption) ?_
        · intro w' hSw; exact exec_mid rfl rfl hSw.1 Tryz.underlying68 rfl (by rw [sizeW, HCL.out])
        (try simp only [Act.put, List.setIfInBounds_toArray, List.set_cons_zero, List.set_cons_succ])
        refine wpAnyH_ready (rs := [0]) (by kernel_rfl) (by simp) ?_
        refine AllReadyH.cons (take_at rfl) (fun K hK => ?_) AllReadyH.nil
        refine wp_load_row 37 _ rfl gm rfl _ _ _ _ (C3.out.bm.step B.out) Tryz.underlying37 rfl (by rw [sizeM]; rfl) ?_
        refine hK.out _ _ ?_ (fun hHeld2 => ?_)
        · (try dsimp only); exact KSS.out _ B.out
        clear hK K hHeld
        have hHeld := hHeld2
        clear hHeld2
        (try simp only [Act.put, List.setIfInBounds_toArray, List.set_cons_zero, List.set_cons_succ])
        refine wpAnyH_ready (rs := [8]) (by kernel_rfl) (by simp) ?_
        refine AllReadyH.cons (take_at rfl) (fun K hK => ?_) AllReadyH.nil
        go_simp
        refine (mgnote_any (mvC M0 cp ch) mb R (⟨KA, kn, kc, CA, cn, cc⟩ : RA) cs x v0 (HT.out.step (C3.out.be.step' B.out)) (HRR.out.step (C3.out.be.step' B.out)) HKE.out.1 (C3.out.mr.step B.out) (IW3.out.step B.out) rfl HF.out.sp HF.out.kd (by have := C3.out.ln; show cp.length ≤ 1000; omega) (by have := C3.out.ln; show ch.length ≤ 900; omega)).mono ?_
        rintro e3 y2 ⟨mb2, rfl, hmr, hb⟩
        have HMR2 : Hid (MR y2 mb2 (mvC M0 cp (ch ++ noteX R M0.sp M0.lo M0.hi x))) := hmr
        clear hmr
        replace B := Lib.hid (B.out.step' hb)
        clear hb
        (try go_wp2_with fail)
        refine hK.out _ _ ?_ (fun hHeld2 => ?_)
        · (try dsimp only); exact KSS.out _ B.out
        clear hK K hHeld
        have hHeld := hHeld2
        clear hHeld2
        (try simp only [Act.put, List.setIfInBounds_toArray, List.set_cons_zero, List.set_cons_succ])
        refine wpAnyH_take (i := 9) (v := ?_) (take_at rfl) (by kernel_rfl) (by kernel_rfl) (by kernel_rfl) (fun _ _ _ h => h) (Or.inl ⟨by rfl, ?_⟩) (by assumption) ?_
        rotate_left
        · intro w' hSw; (try dsimp only at hSw); go_simp; (try with_reducible rfl)
        (try simp only [Act.put, List.setIfInBounds_toArray, List.set_cons_zero, List.set_cons_succ])
        refine wpAnyH_take (i := 10) (v := ?_) (take_at rfl) (by kernel_rfl) (by kernel_rfl) (by kernel_rfl) (fun _ _ _ h => h) (Or.inl ⟨by rfl, ?_⟩) (by assumption) ?_
        rotate_left
        · intro w' hSw; (try dsimp only at hSw); go_simp; (try with_reducible rfl)
        (try simp only [Act.put, List.setIfInBounds_toArray, List.set_cons_zero, List.set_cons_succ])
        refine wpAnyH_take (i := 11) (v := ?_) (take_at rfl) (by kernel_rfl) (by kernel_rfl) (by kernel_rfl) (fun _ _ _ h => h) (Or.inl ⟨by rfl, ?_⟩) (by assumption) ?_
        rotate_left
        · intro w' hSw; (try dsimp only at hSw); go_simp; (try with_reducible rfl)
        (try simp only [Act.put, List.setIfInBounds_toArray, List.set_cons_zero, List.set_cons_succ])
        refine wpAnyH_ready (rs := [12]) (by kernel_rfl) (by simp) ?_
        refine AllReadyH.cons (take_at rfl) (fun K hK => ?_) AllReadyH.nil
        have C4 := Lib.hid (CarI.note C2.out (by have := HG1.out; omega) (by have := HG1.out; omega) HG2.out (by have := HG1.out; omega) HB11.out HSL6.out HES.out B.out HMR2.out HF.out)
        refine wp_store_row 37 _ _ rfl gm (marr mb2 (mvC M0 cp (ch ++ noteX R M0.sp M0.lo M0.hi x))) rfl rfl 37 _ ((C3.out.bm.step B.out)) (by rw [sizeM]; rfl) rfl (marr_all _ _) ?_
        have RG4 := Lib.hid (rangeAt_row (rangeAt_step RG3.out B.out) HBG.out (marr mb2 (mvC M0 cp (ch ++ noteX R M0.sp M0.lo M0.hi x))))
        generalize y2.setRow gm (marr mb2 (mvC M0 cp (ch ++ noteX R M0.sp M0.lo M0.hi x))) = y9 at *
        refine hK.out _ _ ?_ (fun hHeld2 => ?_)
        · (try dsimp only); exact ⟨RG4.out, C4.out.bx.cell 0, C4.out.bx.cell 1, C4.out.bx.cell 2, C4.out.bx.cell 3, C4.out.bx.cell 4, C4.out.bx.cell 5, C4.out.bx.cell 9⟩
        clear hK K hHeld
        have hHeld := hHeld2
        clear hHeld2
        (try simp only [Act.put, List.setIfInBounds_toArray, List.set_cons_zero, List.set_cons_succ])
        refine wpAnyH_take (i := 13) (v := ?_) (take_at rfl) (by kernel_rfl) (by kernel_rfl) (by kernel_rfl) (fun _ _ _ h => h) (Or.inl ⟨by rfl, ?_⟩) (by assumption) ?_
        rotate_left
        · intro w' hSw; (try dsimp only at hSw); go_simp; (try with_reducible rfl)
        (try simp only [Act.put, List.setIfInBounds_toArray, List.set_cons_zero, List.set_cons_succ])
        refine wpAnyH_done (by kernel_rfl) ?_ _
        refine NoPanic.normal ?_
        clear KSS hHeld B RG3 IW3 C3 C2
        go_wp2_with fail
        go_roundw
        case rel => exact ⟨i + 1, A6, n6, c6, es, al, mb2, cp, (ch ++ noteX R M0.sp M0.lo M0.hi x), by omega, by go_num, rfl, C4.out⟩
        case measure => simp [intOf]; omega
    · have hik : xn = i := by omega
      subst hik
      have x0 : wr.cell? ⟨w.heap.size, 0, none⟩ = some (.string R.sp) := C.out.bx.cell 0
      have x1 : wr.cell? ⟨w.heap.size, 1, none⟩ = some (.slice KA kn kc) := C.out.bx.cell 1
      have x2 : wr.cell? ⟨w.heap.size, 2, none⟩ = some (.bool R.ha) := C.out.bx.cell 2
      have x3 : wr.cell? ⟨w.heap.size, 3, none⟩ = some (.int .i64 R.ep) := C.out.bx.cell 3
      have x4 : wr.cell? ⟨w.heap.size, 4, none⟩ = some (.int .i64 R.ver) := C.out.bx.cell 4
      have x5 : wr.cell? ⟨w.heap.size, 5, none⟩ = some (.slice CA cn cc) := C.out.bx.cell 5
      have x6 : wr.cell? ⟨w.heap.size, 6, none⟩ = some (.string lo) := C.out.bx.cell 6
      have x7 : wr.cell? ⟨w.heap.size, 7, none⟩ = some (.int .i64 tt) := C.out.bx.cell 7
      have x8 : wr.cell? ⟨w.heap.size, 8, none⟩ = some (.slice DA dn dc) := C.out.bx.cell 8
      have x9 : wr.cell? ⟨w.heap.size, 9, none⟩ = some (.slice XA xn xc) := C.out.bx.cell 9
      have x10 : wr.cell? ⟨w.heap.size, 10, none⟩ = some (.int .i64 ea) := C.out.bx.cell 10
      have HLD := Lib.hid (load_any (mvC M0 cp ch) mb wr C.out.mr rfl (by have := C.out.ln; show cp.length ≤ 1000; omega) (by have := C.out.ln; show ch.length ≤ 1000; omega))
      have CBM := Lib.hid C.out.bm
      go_wp2_with (refine wpList_load_row rfl 37 _ rfl gm rfl _ _ _ _ CBM.out Tryz.underlying37 rfl (by rw [sizeM]; rfl) ?_)
      refine HLD.out.mono ?_
      rintro e w8 ⟨LA, ln, lc, ls, rfl, hls, hws, hb⟩
      have C1 := Lib.hid (C.out.step hb)
      have HLS := Lib.hid hls
      have HWS := Lib.hid hws
      have HB8 := Lib.hid hb
      have HLN : Hid (ln = ls.length) := hws.sr.ln
      have hlsn : ls.length = cp.length + ch.length := by have := congrArg List.length hls; rw [List.length_map, List.length_append] at this; exact this
      have hln3 : ln ≤ 60 := by have := HLN.out; have := C.out.ln; omega
      have hal3 : al.length ≤ 60 := by have := C.out.ln; omega
      clear hls hws hb HLD CBM hlsn
      go_upto_region 25 with (refine wpList_store_row rfl 37 _ _ rfl gm (marr MA.zero (mvC M0 [] [])) rfl rfl 37 _ C1.out.bm (by rw [sizeM]; rfl) rfl (marr_all _ _) ?_)
      have HOW := Lib.hid (C1.out.vs.row_move C1.out.bm (by have := HG1.out; omega) (by have := HG1.out; omega) HG2.out (marr MA.zero (mvC M0 [] []))).own
      have RDL := Lib.hid (((HWS.out.mono (fun _ _ => trivial)).row_move C1.out.bm (by have := HG1.out; omega) (marr MA.zero (mvC M0 [] []))).sr.reads recW_length (by decide))
      have HLO6 : Hid (wl.heap.size ≤ (w8.setRow gm (marr MA.zero (mvC M0 [] []))).heap.size) := by rw [Hid, size_setRow]; exact C1.out.sz
      go_wp2_with (at_builtin; refine wpList_append_any _ rfl _ _ 29 rfl wl.heap.size 68 j0 _ 78 1168 Tryz.underlying29 hj0 hw0 hw1 hw2 rfl (by decide) u6 al.length (flat recW al) rfl HOW.out _ _ ln _ (flat recW ls) rfl RDL.out (flat_oneW ls) (by unfold maxLen; omega) (by omega) HLO6.out ?_)
      intro u6 wr hown hgr hat
      obtain ⟨al, hC9⟩ : ∃ al, CarI w wl.heap.size gm w.heap.size (sarr (⟨KA, kn, kc, CA, cn, cc⟩ : RA) R lo tt ea DA dn dc XA xn xc) R M0 xn A5 n5 c5 ds u6 al MA.zero [] [] wr := ⟨_, CarI.load C.out (by have := HG1.out; omega) (by have := HG1.out; omega) HG2.out (by have := HG1.out; omega) (by have := HG1.out; have := HG2.out; omega) HB8.out HWS.out HLS.out (by rw [HLN.out]) hown hgr (by rw [size_setRow]; exact hat)⟩
      clear HB8 HWS HLS HLN hown hgr hat C C1 HOW RDL HLO6 hln3 hal3 x0 x1 x2 x3 x4 x5 x6 x7 x8 x9 x10
      have hal4 : al.length ≤ 50 := by have := hC9.ln; simp at this; omega
      have hn54 : n5 ≤ 50 := by have := hC9.nl; omega
      have HST : Hid ((al.map Prod.snd).foldl carryV [] = (ds.map Prod.snd).filter (insD R M0.lo M0.hi)) := by
        have := hC9.st.eq
        rw [List.append_nil, List.append_nil] at this
        exact this
      have HOK2 : Hid (∀ y ∈ al.map Prod.snd, GoodW M0.sp y) := by
        have := hC9.st.ok
        rw [List.append_nil, List.append_nil] at this
        exact this
      have HSPR : Hid (M0.sp = R.sp) := HSD.out.sp
      obtain ⟨AL, lc6, hu6, hsl6⟩ := hC9.vs.sl (by omega)
      subst hu6
      have CN := Lib.hid hC9
      have HWL := Lib.hid hsl6
      clear hC9 hsl6
      generalize wr = wm at *
      go_wp2_with fail
      go_loopw [9, 11] (fun u9 u11 wr => ∃ (k : Nat) (A9 : Option Addr) (n9 c9 : Nat) (gs : List PV), k ≤ al.length ∧ u11 = .int .i64 k ∧ u9 = .slice A9 n9 c9 ∧ gs.map Prod.snd = ((al.map Prod.snd).take k).foldl carryV [] ∧ SL (fun _ => True) wr A9 n9 c9 gs ∧ n9 ≤ k ∧ Below wm.heap.size wm wr) (fun _ u11 _ => al.length - (intOf u11).toNat)
      case atStart => exact ⟨0, none, 0, 0, [], Nat.zero_le _, rfl, rfl, rfl, SL.nil, Nat.le_refl _, Below.refl _ _⟩
      case round =>
        obtain ⟨k, A9, n9, c9, gs, hkle, rfl, rfl, hgs, hsl, hn9, hbel⟩ := hrel
        have HGS := Lib.hid hgs
        have HS9 := Lib.hid hsl
        have HB := Lib.hid hbel
        clear hgs hsl hbel
        by_cases hlk : k < al.length
        · obtain ⟨q, hq⟩ : ∃ q, al[k]? = some q := ⟨_, List.getElem?_eq_getElem (by omega)⟩
          have HQ := Lib.hid hq
          obtain ⟨b, off, rfl, _, hrg, hrw⟩ := (HWL.out.step HB.out).range hq
          have hgw := HOK2.out q.2 (List.mem_map_of_mem (List.mem_of_getElem? hq))
          have RG := Lib.hid hrg
          have RQ := Lib.hid hrw
          have HY77 : Hid (wr.cell? ⟨b, off + k * 78 + 77, none⟩ = some (.bool true)) := by
            have := hrg 77 _ rfl
            rw [Hid, this, show q.1.si = true from hrw.si.trans hgw.1]
          have HY1 : Hid (wr.cell? ⟨b, off + k * 78 + 1, none⟩ = some (.string R.sp)) := by
            have := hrg 1 _ rfl
            rw [Hid, this, show q.1.sp = R.sp from (hrw.sp.trans hgw.2.1).trans HSPR.out]
          have HX0 : Hid (wr.cell? ⟨w.heap.size, 0, none⟩ = some (.string R.sp)) := (CN.out.bx.step HB.out).cell 0
          have k0' : (0 : Int) ≤ (k : Int) := by omega
          have k1' : (k : Int) < (al.length : Int) := by omega
          clear hq hrg hrw hgw
          go_upto_region 32 with fail
          have B : Hid (Below wr.heap.size wr wr.drew) := Lib.hid ((Below.refl wr.heap.size wr).drew)
          have KSS : Hid (∀ w' : World, Below wr.heap.size wr w' → (fun w' => w'.cell? ⟨b, off + k * 78 + 77, none⟩ = some (.bool true) ∧ w'.cell? ⟨b, off + k * 78 + 1, none⟩ = some (.string R.sp) ∧ w'.cell? ⟨w.heap.size, 0, none⟩ = some (.string R.sp)) w') := Lib.hid fun w' hb => ⟨(hb.cell (World.block_lt_of_cell? wr _ HY77.out)).trans HY77.out, (hb.cell (World.block_lt_of_cell? wr _ HY1.out)).trans HY1.out, (hb.cell (World.block_lt_of_cell? wr _ HX0.out)).trans HX0.out⟩
          refine wp_region_noPanic ?_
          refine wp_region_held_drew (S := (fun w' => w'.cell? ⟨b, off + k * 78 + 77, none⟩ = some (.bool true) ∧ w'.cell? ⟨b, off + k * 78 + 1, none⟩ = some (.string R.sp) ∧ w'.cell? ⟨w.heap.size, 0, none⟩ = some (.string R.sp))) (by kernel_rfl) ?_ (fun hHeld => ?_)
          · (try dsimp only); exact KSS.out _ B.out
          generalize wr.drew = v0 at *
          refine wpAnyH_take (i := 0) (v := ?_) (take_at rfl) (by kernel_rfl) (by kernel_rfl) (by kernel_rfl) (fun _ _ _ h => h) (Or.inl ⟨by rfl, ?_⟩) (by assumption) ?_
          rotate_left
          · intro w' hSw; (try dsimp only at hSw); go_simp; (try with_reducible rfl)
          (try simp only [Act.put, List.setIfInBounds_toArray, List.set_cons_zero, List.set_cons_succ])
          refine wpAnyH_take (i := 1) (v := ?_) (take_at rfl) (by kernel_rfl) (by kernel_rfl) (by kernel_rfl) (fun _ _ _ h => h) (Or.inl ⟨by rfl, ?_⟩) (by assumption) ?_
          rotate_left
          · intro w' hSw; (try dsimp only at hSw); go_simp; (try with_reducible rfl)
          (try simp only [Act.put, List.setIfInBounds_toArray, List.set_cons_zero, List.set_cons_succ])
          refine wpAnyH_take (i := 2) (v := ?_) (take_at rfl) (by kernel_rfl) (by kernel_rfl) (by kernel_rfl) (fun _ _ _ h => h) (Or.inl ⟨by rfl, ?_⟩) (by assumption) ?_
          rotate_left
          · intro w' hSw; (try dsimp only at hSw); go_simp; (try with_reducible rfl)
          (try simp only [Act.put, List.setIfInBounds_toArray, List.set_cons_zero, List.set_cons_succ])
          refine wpAnyH_take (i := 3) (v := ?_) (take_at rfl) (by kernel_rfl) (by kernel_rfl) (by kernel_rfl) (fun _ _ _ h => h) (Or.inl ⟨by rfl, ?_⟩) (by assumption) ?_
          rotate_left
          · intro w' hSw; (try dsimp only at hSw); go_simp; (try with_reducible rfl)
          (try simp only [Act.put, List.setIfInBounds_toArray, List.set_cons_zero, List.set_cons_succ])
          refine wpAnyH_take (i := 4) (v := ?_) (take_at rfl) (by kernel_rfl) (by kernel_rfl) (by kernel_rfl) (fun _ _ _ h => h) (Or.inl ⟨by rfl, ?_⟩) (by assumption) ?_
          rotate_left
          · intro w' hSw; (try dsimp only at hSw); go_simp; (try with_reducible rfl)
          (try simp only [Act.put, List.setIfInBounds_toArray, List.set_cons_zero, List.set_cons_succ])
          refine wpAnyH_take (i := 5) (v := ?_) (take_at rfl) (by kernel_rfl) (by kernel_rfl) (by kernel_rfl) (fun _ _ _ h => h) (Or.inl ⟨by rfl, ?_⟩) (by assumption) ?_
          rotate_left
          · intro w' hSw; (try dsimp only at hSw); go_simp; (try with_reducible rfl)
          (try simp only [Act.put, List.setIfInBounds_toArray, List.set_cons_zero, List.set_cons_succ])
          refine wpAnyH_take (i := 6) (v := ?_) (take_at rfl) (by kernel_rfl) (by kernel_rfl) (by kernel_rfl) (fun _ _ _ h => h) (Or.inl ⟨by rfl, ?_⟩) (by assumption) ?_
          rotate_left
          · intro w' hSw; (try dsimp only at hSw); go_simp; (try with_reducible rfl)
          (try simp only [Act.put, List.setIfInBounds_toArray, List.set_cons_zero, List.set_cons_succ])
          refine wpAnyH_take (i := 7) (v := ?_) (take_at rfl) (by kernel_rfl) (by kernel_rfl) (by kernel_rfl) (fun _ _ _ h => h) (Or.inl ⟨by rfl, ?_⟩) (by assumption) ?_
          rotate_left
          · intro w' hSw; (try dsimp only at hSw); go_simp; (try with_reducible rfl)
          (try simp only [Act.put, List.setIfInBounds_toArray, List.set_cons_zero, List.set_cons_succ])
          refine wpAnyH_take (i := 8) (v := ?_) (take_at rfl) (by kernel_rfl) (by kernel_rfl) (by kernel_rfl) (fun _ _ _ h => h) (Or.inl ⟨by rfl, ?_⟩) (by assumption) ?_
          rotate_left
          · intro w' hSw; (try dsimp only at hSw); go_simp; (try with_reducible rfl)
          (try simp only [Act.put, List.setIfInBounds_toArray, List.set_cons_zero, List.set_cons_succ])
          refine wpAnyH_take (i := 9) (v := ?_) (take_at rfl) (by kernel_rfl) (by kernel_rfl) (by kernel_rfl) (fun _ _ _ h => h) (Or.inl ⟨by rfl, ?_⟩) (by assumption) ?_
          rotate_left
          · intro w' hSw; (try dsimp only at hSw); go_simp; (try with_reducible rfl)
          (try simp only [Act.put, List.setIfInBounds_toArray, List.set_cons_zero, List.set_cons_succ])
          refine wpAnyH_take (i := 10) (v := ?_) (take_at rfl) (by kernel_rfl) (by kernel_rfl) (by kernel_rfl) (fun _ _ _ h => h) (Or.inl ⟨by rfl, ?_⟩) (by assumption) ?_
          rotate_left
          · intro w' hSw; (try dsimp only at hSw); go_simp; (try with_reducible rfl)
          (try simp only [Act.put, List.setIfInBounds_toArray, List.set_cons_zero, List.set_cons_succ])
          refine wpAnyH_take (i := 11) (v := ?_) (take_at rfl) (by kernel_rfl) (by kernel_rfl) (by kernel_rfl) (fun _ _ _ h => h) (Or.inl ⟨by rfl, ?_⟩) (by assumption) ?_
          rotate_left
          · intro w' hSw; (try dsimp only at hSw); go_simp; (try with_reducible rfl)
          (try simp only [Act.put, List.setIfInBounds_toArray, List.set_cons_zero, List.set_cons_succ])
          refine wpAnyH_take (i := 12) (v := ?_) (take_at rfl) (by kernel_rfl) (by kernel_rfl) (by kernel_rfl) (fun _ _ _ h => h) (Or.inl ⟨by rfl, ?_⟩) (by assumption) ?_
          rotate_left
          · intro w' hSw; (try dsimp only at hSw); go_simp; (try with_reducible rfl)
          (try simp only [Act.put, List.setIfInBounds_toArray, List.set_cons_zero, List.set_cons_succ])
          refine wpAnyH_take (i := 13) (v := ?_) (take_at rfl) (by kernel_rfl) (by kernel_rfl) (by kernel_rfl) (fun _ _ _ h => h) (Or.inl ⟨by rfl, ?_⟩) (by assumption) ?_
          rotate_left
          · intro w' hSw; (try dsimp only at hSw); go_simp; (try with_reducible rfl)
          (try simp only [Act.put, List.setIfInBounds_toArray, List.set_cons_zero, List.set_cons_succ])
          refine wpAnyH_take (i := 14) (v := ?_) (take_at rfl) (by kernel_rfl) (by kernel_rfl) (by kernel_rfl) (fun _ _ _ h => h) (Or.inl ⟨by rfl, ?_⟩) (by assumption) ?_
          rotate_left
          · intro w' hSw; (try dsimp only at hSw); go_simp; (try with_reducible rfl)
          (try simp only [Act.put, List.setIfInBounds_toArray, List.set_cons_zero, List.set_cons_succ])
          refine wpAnyH_take (i := 15) (v := ?_) (take_at rfl) (by kernel_rfl) (by kernel_rfl) (by kernel_rfl) (fun _ _ _ h => h) (Or.inl ⟨by rfl, ?_⟩) (by assumption) ?_
          rotate_left
          · intro w' hSw; (try dsimp only at hSw); go_simp; (try with_reducible rfl)
          (try simp only [Act.put, List.setIfInBounds_toArray, List.set_cons_zero, List.set_cons_succ])
          refine wpAnyH_take (i := 16) (v := ?_) (take_at rfl) (by kernel_rfl) (by kernel_rfl) (by kernel_rfl) (fun _ _ _ h => h) (Or.inl ⟨by rfl, ?_⟩) (by assumption) ?_
          rotate_left
          · intro w' hSw; (try dsimp only at hSw); go_simp; (try with_reducible rfl)
          (try simp only [Act.put, List.setIfInBounds_toArray, List.set_cons_zero, List.set_cons_succ])
          refine wpAnyH_done (by kernel_rfl) ?_ _
          refine NoPanic.normal ?_
          have HB2 := Lib.hid (HB.out.step' B.out)
          have RG2 := Lib.hid (rangeAt_step RG.out B.out)
          have RQ2 := Lib.hid (RQ.out.step B.out)
          have HS2 := Lib.hid (HS9.out.step B.out)
          clear B hHeld KSS HB RG RQ HS9 HY77 HY1 HX0
          have hgl : gs.length ≤ 200 := by have := HS2.out.sr.ln; omega
          go_wp2_with (refine wpList_load_mid rfl 68 _ rfl b (off + k * 78) rfl _ _ RG2.out Tryz.underlying68 rfl (by rw [sizeW]; rfl) ?_)
          refine (carry_any (F := fun _ => True) gs A9 n9 c9 (recC78 q.1) (wxOf q) v0 HS2.out (by omega) (isW_rec RQ2.out) RQ2.out.doc).mono ?_
          rintro e w11 ⟨A10, n10, c10, es, rfl, hes, hsl, hb⟩
          have hes2 : es.map Prod.snd = ((al.map Prod.snd).take (k + 1)).foldl carryV [] := by
            rw [hes, carryX_of RQ2.out, take_snoc' (show (al.map Prod.snd)[k]? = some q.2 by rw [List.getElem?_map, HQ.out]; rfl), List.foldl_append, ← HGS.out]
            rfl
          have hel : n10 ≤ k + 1 := by
            have h1 := congrArg List.length hes
            have h2 := carryV_len (gs.map Prod.snd) q.2
            rw [carryX_of RQ2.out] at h1
            rw [List.length_map] at h1 h2
            have h3 := hsl.sr.ln
            have h4 := HS2.out.sr.ln
            omega
          have HES := Lib.hid hes2
          have HSL6 : Hid (SL (fun _ => True) w11 A10 n10 c10 es) := hsl.mono fun _ _ => trivial
          have HB3 := Lib.hid (HB2.out.step' hb)
          clear hes hsl hb hes2 RG2 RQ2 HS2 HB2
          go_wp2_with fail
          go_roundw
          case rel => exact ⟨k + 1, A10, n10, c10, es, by omega, by go_num, rfl, HES.out, HSL6.out, hel, HB3.out⟩
          case measure => simp [intOf]; omega
        · have hka : k = al.length := by omega
          have HG : Hid (gs.map Prod.snd = (ds.map Prod.snd).filter (insD R M0.lo M0.hi)) := by
            have := HGS.out
            rw [List.take_of_length_le (by rw [List.length_map]; omega)] at this
            exact this.trans HST.out
          have HCN2 := Lib.hid (CN.out.step HB.out)
          have HGL : Hid (n9 ≤ 100) := by unfold Hid; omega
          clear CN HGS HB HWL HOK2 HST
          have CN := HCN2
          clear HCN2
          have hk3 : ¬ (k : Int) < (al.length : Int) := by omega
          generalize wr = wn at *
          go_wp2_with fail
          have HDS : Hid (SL (fun _ => True) wn A5 n5 c5 ds) := CN.out.sl.mono fun _ _ => trivial
          have HDL : Hid (n5 = ds.length) := CN.out.sl.sr.ln
          go_loopw [10, 12] (fun u10 u12 wr => ∃ (j : Nat) (ws : List PV), j ≤ n5 ∧ u12 = .int .i64 j ∧ ws.map Prod.snd = ((ds.map Prod.snd).take j).filter (insD R M0.lo M0.hi) ∧ ws.length ≤ j ∧ VsI wn u10 ws wr) (fun _ u12 _ => n5 - (intOf u12).toNat)
          case atStart => exact ⟨0, [], Nat.zero_le _, rfl, rfl, Nat.le_refl _, VsI.start wn⟩
          case round =>
            obtain ⟨j, ws, hjle, rfl, hwq, hwl, hvs⟩ := hrel
            have HWQ := Lib.hid hwq
            have VS := Lib.hid hvs
            clear hwq hvs
            by_cases hlj : j < n5
            · obtain ⟨p, hp⟩ : ∃ p, ds[j]? = some p := ⟨_, List.getElem?_eq_getElem (by have := HDL.out; omega)⟩
              have HPi := Lib.hid hp
              obtain ⟨b, off, rfl, _, hu, hr⟩ := (HDS.out.step VS.out.bel).vat hp
              have HPA := Lib.hid hu
              have HPR := Lib.hid hr
              have j0' : (0 : Int) ≤ (j : Int) := by omega
              have j1' : (j : Int) < (n5 : Int) := by omega
              clear hp hu hr
              obtain ⟨ib, hib⟩ : ∃ ib, insD R M0.lo M0.hi p.2 = ib := ⟨_, rfl⟩
              have HIB := Lib.hid hib
              clear hib
              go_upto_region 38 with fail
              have B : Hid (Below wr.heap.size wr wr.drew) := Lib.hid ((Below.refl wr.heap.size wr).drew)
              have KSS : Hid (∀ w' : World, Below wr.heap.size wr w' → (fun w' => Blk w' gm 37 (marr MA.zero (mvC M0 [] [])) ∧ w'.cell? ⟨b, off + j * 5, none⟩ = some (.int .i64 p.1.k) ∧ w'.cell? ⟨b, off + j * 5 + 1, none⟩ = some (.int .i64 p.1.n) ∧ w'.cell? ⟨b, off + j * 5 + 2, none⟩ = some (.string p.1.t) ∧ w'.cell? ⟨b, off + j * 5 + 3, none⟩ = some (.slice p.1.LA p.1.ln p.1.lc) ∧ w'.cell? ⟨b, off + j * 5 + 4, none⟩ = some (.slice p.1.DA p.1.dn p.1.dc) ∧ w'.cell? ⟨w.heap.size, 0, none⟩ = some (.string R.sp) ∧ w'.cell? ⟨w.heap.size, 1, none⟩ = some (.slice KA kn kc) ∧ w'.cell? ⟨w.heap.size, 2, none⟩ = some (.bool R.ha) ∧ w'.cell? ⟨w.heap.size, 3, none⟩ = some (.int .i64 R.ep) ∧ w'.cell? ⟨w.heap.size, 4, none⟩ = some (.int .i64 R.ver) ∧ w'.cell? ⟨w.heap.size, 5, none⟩ = some (.slice CA cn cc)) w') := Lib.hid fun w' hb => by
                obtain ⟨a0, a1, a2, a3, a4⟩ := HPA.out
                have cl : ∀ {x : Addr} {v : Value}, wr.cell? x = some v → w'.cell? x = some v := fun h => (hb.cell (World.block_lt_of_cell? wr _ h)).trans h
                exact ⟨(CN.out.bm.step VS.out.bel).step hb, cl a0, cl a1, cl a2, cl a3, cl a4, ((CN.out.bx.step VS.out.bel).step hb).cell 0, ((CN.out.bx.step VS.out.bel).step hb).cell 1, ((CN.out.bx.step VS.out.bel).step hb).cell 2, ((CN.out.bx.step VS.out.bel).step hb).cell 3, ((CN.out.bx.step VS.out.bel).step hb).cell 4, ((CN.out.bx.step VS.out.bel).step hb).cell 5⟩
              have HIN : Hid (∀ wq, RR wq (⟨KA, kn, kc, CA, cn, cc⟩ : RA) R → RW wq p.1 p.2 → Calls Tryz.prog 16 #[mval MA.zero (mvC M0 [] []), rval (⟨KA, kn, kc, CA, cn, cc⟩ : RA) R, p.1.val] wq fun e w' => e = .returned (.bool ib) ∧ Below wq.heap.size wq w') := Lib.hid fun wq h1 h2 => by
                have := rin_any (mvC M0 [] []) MA.zero R (⟨KA, kn, kc, CA, cn, cc⟩ : RA) p.2 p.1 wq h1 h2 HKE.out.1 HKE.out.2 HLO0.out
                simp only at this
                rw [HIB.out] at this
                exact this
              refine wp_region_noPanic ?_
              refine wp_region_held_drew (S := (fun w' => Blk w' gm 37 (marr MA.zero (mvC M0 [] [])) ∧ w'.cell? ⟨b, off + j * 5, none⟩ = some (.int .i64 p.1.k) ∧ w'.cell? ⟨b, off + j * 5 + 1, none⟩ = some (.int .i64 p.1.n) ∧ w'.cell? ⟨b, off + j * 5 + 2, none⟩ = some (.string p.1.t) ∧ w'.cell? ⟨b, off + j * 5 + 3, none⟩ = some (.slice p.1.LA p.1.ln p.1.lc) ∧ w'.cell? ⟨b, off + j * 5 + 4, none⟩ = some (.slice p.1.DA p.1.dn p.1.dc) ∧ w'.cell? ⟨w.heap.size, 0, none⟩ = some (.string R.sp) ∧ w'.cell? ⟨w.heap.size, 1, none⟩ = some (.slice KA kn kc) ∧ w'.cell? ⟨w.heap.size, 2, none⟩ = some (.bool R.ha) ∧ w'.cell? ⟨w.heap.size, 3, none⟩ = some (.int .i64 R.ep) ∧ w'.cell? ⟨w.heap.size, 4, none⟩ = some (.int .i64 R.ver) ∧ w'.cell? ⟨w.heap.size, 5, none⟩ = some (.slice CA cn cc))) (by kernel_rfl) ?_ (fun hHeld => ?_)
              · (try dsimp only); exact KSS.out _ B.out
              generalize wr.drew = v0 at *
              refine wpAnyH_take (i := 0) (v := .agg (marr MA.zero (mvC M0 [] []))) (take_at rfl) (by kernel_rfl) (by kernel_rfl) (by kernel_rfl) (fun _ _ _ h => h) (Or.inl ⟨by rfl, ?_⟩) (by assumption) ?_
              · intro w' hSw; exact exec_row rfl rfl hSw.1 Tryz.underlying37 rfl (by rw [sizeM]; rfl)
              (try simp only [Act.put, List.setIfInBounds_toArray, List.set_cons_zero, List.set_cons_succ])
              refine wpAnyH_take (i := 1) (v := ?_) (take_at rfl) (by kernel_rfl) (by kernel_rfl) (by kernel_rfl) (fun _ _ _ h => h) (Or.inl ⟨by rfl, ?_⟩) (by assumption) ?_
              rotate_left
              · intro w' hSw; (try dsimp only at hSw); go_simp; (try with_reducible rfl)
              (try simp only [Act.put, List.setIfInBounds_toArray, List.set_cons_zero, List.set_cons_succ])
              refine wpAnyH_take (i := 2) (v := ?_) (take_at rfl) (by kernel_rfl) (by kernel_rfl) (by kernel_rfl) (fun _ _ _ h => h) (Or.inl ⟨by rfl, ?_⟩) (by assumption) ?_
              rotate_left
              · intro w' hSw; (try dsimp only at hSw); go_simp; (try with_reducible rfl)
              (try simp only [Act.put, List.setIfInBounds_toArray, List.set_cons_zero, List.set_cons_succ])
              refine wpAnyH_take (i := 3) (v := ?_) (take_at rfl) (by kernel_rfl) (by kernel_rfl) (by kernel_rfl) (fun _ _ _ h => h) (Or.inl ⟨by rfl, ?_⟩) (by assumption) ?_
              rotate_left
              · intro w' hSw; (try dsimp only at hSw); go_simp; (try with_reducible rfl)
              (try simp only [Act.put, List.setIfInBounds_toArray, List.set_cons_zero, List.set_cons_succ])
              refine wpAnyH_take (i := 4) (v := ?_) (take_at rfl) (by kernel_rfl) (by kernel_rfl) (by kernel_rfl) (fun _ _ _ h => h) (Or.inl ⟨by rfl, ?_⟩) (by assumption) ?_
              rotate_left
              · intro w' hSw; (try dsimp only at hSw); go_simp; (try with_reducible rfl)
              (try simp only [Act.put, List.setIfInBounds_toArray, List.set_cons_zero, List.set_cons_succ])
              refine wpAnyH_take (i := 5) (v := ?_) (take_at rfl) (by kernel_rfl) (by kernel_rfl) (by kernel_rfl) (fun _ _ _ h => h) (Or.inl ⟨by rfl, ?_⟩) (by assumption) ?_
              rotate_left
              · intro w' hSw; (try dsimp only at hSw); go_simp; (try with_reducible rfl)
              (try simp only [Act.put, List.setIfInBounds_toArray, List.set_cons_zero, List.set_cons_succ])
              refine wpAnyH_take (i := 6) (v := ?_) (take_at rfl) (by kernel_rfl) (by kernel_rfl) (by kernel_rfl) (fun _ _ _ h => h) (Or.inl ⟨by rfl, ?_⟩) (by assumption) ?_
              rotate_left
              · intro w' hSw; (try dsimp only at hSw); go_simp; (try with_reducible rfl)
              (try simp only [Act.put, List.setIfInBounds_toArray, List.set_cons_zero, List.set_cons_succ])
              refine wpAnyH_ready (rs := [7]) (by kernel_rfl) (by simp) ?_
              refine AllReadyH.cons (take_at rfl) (fun K hK => ?_) AllReadyH.nil
              go_simp
              refine (HIN.out v0 (HRR.out.step (CN.out.be.step' (VS.out.bel.step' B.out))) (HPR.out.step B.out)).mono ?_
              rintro e3 y1 ⟨rfl, hb⟩
              replace B := Lib.hid (B.out.step' hb)
              clear hb
              (try go_wp2_with fail)
              refine hK.out _ _ ?_ (fun hHeld2 => ?_)
              · (try dsimp only); exact KSS.out _ B.out
              clear hK K hHeld
              have hHeld := hHeld2
              clear hHeld2
              (try simp only [Act.put, List.setIfInBounds_toArray, List.set_cons_zero, List.set_cons_succ])
              refine wpAnyH_done (by kernel_rfl) ?_ _
              refine NoPanic.normal ?_
              have VS2 := Lib.hid (VS.out.step B.out)
              have HPA2 : Hid (VAt y1 b (off + j * 5) p.1) := by
                obtain ⟨a0, a1, a2, a3, a4⟩ := HPA.out
                have cl : ∀ {x : Addr} {v : Value}, wr.cell? x = some v → y1.cell? x = some v := fun h => (B.out.cell (World.block_lt_of_cell? wr _ h)).trans h
                exact ⟨cl a0, cl a1, cl a2, cl a3, cl a4⟩
              have HTK : Hid (((ds.map Prod.snd).take (j + 1)).filter (insD R M0.lo M0.hi) = ws.map Prod.snd ++ (if ib = true then [p.2] else [])) := by
                rw [Hid, take_snoc' (show (ds.map Prod.snd)[j]? = some p.2 by rw [List.getElem?_map, HPi.out]; rfl), List.filter_append, ← HWQ.out, List.filter_cons, HIB.out]
                cases ib <;> rfl
              clear HIN KSS hHeld B HPR HPA VS
              cases ib
              · have HT2 : Hid (((ds.map Prod.snd).take (j + 1)).filter (insD R M0.lo M0.hi) = ws.map Prod.snd) := HTK.out.trans (List.append_nil _)
                go_wp2_with fail
                go_roundw
                case rel => exact ⟨j + 1, ws, by omega, by go_num, HT2.out.symm, by omega, VS2.out⟩
                case measure => simp [intOf]; omega
              · have HT2 : Hid (((ds.map Prod.snd).take (j + 1)).filter (insD R M0.lo M0.hi) = ws.map Prod.snd ++ [p.2]) := HTK.out
                have HRP : Hid (RV (fun b => Value.ownBlock u10 ≠ some b) y1 p.1 p.2) := (((HDS.out.rv p (List.mem_of_getElem? HPi.out)).lt.step VS2.out.bel)).mono fun b hb => VS2.out.far (.inl hb.2)
                obtain ⟨a0, a1, a2, a3, a4⟩ := HPA2.out
                clear HPA2 HTK
                have hlo : wn.heap.size ≤ y1.heap.size := VS2.out.bel.size
                have LK := Lib.hid (VS2.out.step ((Below.refl y1.heap.size y1).alloc (Nat.le_refl _) (Obj.cells (VC.arr p.1) 46)))
                have HRZ : Hid (RV (fun b => Value.ownBlock u10 ≠ some b) (y1.alloc (Obj.cells (VC.arr p.1) 46)) p.1 p.2) := RV.alloc (HRP.out) _
                go_wp2_with (at_builtin; refine wpList_append_any _ rfl _ _ 28 rfl wn.heap.size 46 i0 VC.zero.val 5 80 Tryz.underlying28 hi0 hy0 hy1 hy2 rfl (by decide) u10 ws.length (flat recV ws) rfl LK.out.own _ _ 1 _ (recV (p.1, p.2)) rfl ⟨rfl, fun _ => ⟨_, rfl, Nat.lt_succ_self _, news_at _ _ _⟩⟩ (recV_one _) (by unfold maxLen; omega) (by omega) (alloc_leS hlo _) ?_)
                intro v' w6 hown hgr hat
                have HI := Lib.hid (LK.out.add (p := (p.1, p.2)) HRZ.out rfl hown hgr (by rw [size_alloc]; exact hat))
                clear hown hgr hat LK HRZ a0 a1 a2 a3 a4
                go_wp2_with fail
                go_roundw
                case rel => exact ⟨j + 1, ws ++ [(p.1, p.2)], by omega, by go_num, by rw [List.map_append]; exact HT2.out.symm, by simp; omega, HI.out⟩
                case measure => simp [intOf]; omega
            · have hjn : n5 = j := by omega
              subst hjn
              have HW : Hid (ws.map Prod.snd = (ds.map Prod.snd).filter (insD R M0.lo M0.hi)) := by
                have := HWQ.out
                rwa [List.take_of_length_le (by rw [List.length_map, HDL.out]; exact Nat.le_refl _)] at this
              obtain ⟨A10, c10, hu10, hsl10⟩ := VS.out.sl (by omega)
              subst hu10
              have HWS := Lib.hid hsl10
              have CO := Lib.hid (CN.out.step VS.out.bel)
              have HGSL := Lib.hid (HS9.out.step VS.out.bel)
              clear hsl10 VS HWQ CN HDS
              have x0 : wr.cell? ⟨w.heap.size, 0, none⟩ = some (.string R.sp) := CO.out.bx.cell 0
              have x1 : wr.cell? ⟨w.heap.size, 1, none⟩ = some (.slice KA kn kc) := CO.out.bx.cell 1
              have x2 : wr.cell? ⟨w.heap.size, 2, none⟩ = some (.bool R.ha) := CO.out.bx.cell 2
              have x3 : wr.cell? ⟨w.heap.size, 3, none⟩ = some (.int .i64 R.ep) := CO.out.bx.cell 3
              have x4 : wr.cell? ⟨w.heap.size, 4, none⟩ = some (.int .i64 R.ver) := CO.out.bx.cell 4
              have x5 : wr.cell? ⟨w.heap.size, 5, none⟩ = some (.slice CA cn cc) := CO.out.bx.cell 5
              have x6 : wr.cell? ⟨w.heap.size, 6, none⟩ = some (.string lo) := CO.out.bx.cell 6
              have x7 : wr.cell? ⟨w.heap.size, 7, none⟩ = some (.int .i64 tt) := CO.out.bx.cell 7
              have x8 : wr.cell? ⟨w.heap.size, 8, none⟩ = some (.slice DA dn dc) := CO.out.bx.cell 8
              have x9 : wr.cell? ⟨w.heap.size, 9, none⟩ = some (.slice XA xn xc) := CO.out.bx.cell 9
              have x10 : wr.cell? ⟨w.heap.size, 10, none⟩ = some (.int .i64 ea) := CO.out.bx.cell 10
              have HCM := Lib.hid (commit_any (mvC M0 [] []) MA.zero R (⟨KA, kn, kc, CA, cn, cc⟩ : RA) wr (HRR.out.step CO.out.be) rfl rfl rfl (by show (giveR R M0.lo M0.tt).2 = 0; rw [HSD.out.lo, HSD.out.tt]; exact HSD.out.gi))
              go_wp2_with (refine wpList_load_row rfl 37 _ rfl gm rfl _ _ _ _ CO.out.bm Tryz.underlying37 rfl (by rw [sizeM]; rfl) ?_)
              refine HCM.out.mono ?_
              rintro e w13 ⟨a1, rfl, hb⟩
              have CP := Lib.hid (CO.out.step hb)
              replace HWS := Lib.hid (HWS.out.step hb)
              replace HGSL := Lib.hid (HGSL.out.step hb)
              clear hb HCM x0 x1 x2 x3 x4 x5 x6 x7 x8 x9 x10
              go_upto_region 41 with fail
              obtain ⟨w14, hw14⟩ : ∃ w14, (w13.alloc (Obj.cells (marr MA.zero ⟨M0.sp, M0.lo, M0.hi, M0.fr, M0.tt, 4, [], []⟩) 37)).alloc (Obj.cells (rarr a1 (giveR R M0.lo M0.tt).1) 27) = w14 := ⟨_, rfl⟩
              have BQ : Hid (Blk w14 w13.heap.size 37 (marr MA.zero ⟨M0.sp, M0.lo, M0.hi, M0.fr, M0.tt, 4, [], []⟩)) := by rw [← hw14]; exact (Blk.new_at rfl).alloc _
              have hb14 : Below w13.heap.size w13 w14 := by rw [← hw14]; exact ((Below.refl _ _).alloc (Nat.le_refl _) _).alloc (by simp) _
              change Code.wp _ _ _ _ ((w13.alloc (Obj.cells (marr MA.zero ⟨M0.sp, M0.lo, M0.hi, M0.fr, M0.tt, 4, [], []⟩) 37)).alloc (Obj.cells (rarr a1 (giveR R M0.lo M0.tt).1) 27))
              rw [hw14]
              replace HWS := Lib.hid (HWS.out.step hb14)
              replace HGSL := Lib.hid (HGSL.out.step hb14)
              have BF := Lib.hid (CP.out.be.step' hb14)
              clear hw14 hb14 CP CO
              generalize w13.heap.size = g13 at *
              go_wp2_with fail
              refine (sorted_any gs A9 n9 c9 w14 HGSL.out (by have := HGL.out; omega)).mono ?_
              rintro e w15 ⟨B1, m1, d1, s1, rfl, hs1, hl1, hb⟩
              have HS1 := Lib.hid hs1
              have HL1 := Lib.hid hl1
              replace HWS := Lib.hid (HWS.out.step hb)
              replace BQ := Lib.hid (BQ.out.step hb)
              replace BF := Lib.hid (BF.out.step' hb)
              clear hs1 hl1 hb HGSL
              go_wp2_with fail
              refine (sorted_any ws A10 ws.length c10 w15 HWS.out (by omega)).mono ?_
              rintro e w16 ⟨B2, m2, d2, s2, rfl, hs2, hl2, hb⟩
              have HEQ : Hid (s1.map Prod.snd = s2.map Prod.snd) := by
                have h1 := HS1.out
                rw [HG.out] at h1
                rw [HW.out] at hs2
                exact h1.unique hs2
              have HL2 := Lib.hid hl2
              replace HL1 := Lib.hid (HL1.out.step hb)
              replace BQ := Lib.hid (BQ.out.step hb)
              replace BF := Lib.hid (BF.out.step' hb)
              clear hs2 hl2 hb HWS HS1
              go_wp2_with fail
              refine (samelistM_eq s1 s2 B1 B2 m1 d1 m2 d2 w16 HL1.out HL2.out HEQ.out).mono ?_
              rintro e w17 ⟨rfl, hb⟩
              replace BQ := Lib.hid (BQ.out.step hb)
              replace BF := Lib.hid (BF.out.step' hb)
              clear hb HL1 HL2 HEQ
              have q5 : w17.cell? ⟨g13, 5, none⟩ = some (.int .i64 4) := BQ.out.cell 5
              go_wp2_with fail
              refine (HAW.out _ BF.out).mono ?_
              rintro e wz ⟨rfl, hbz⟩
              have BZ := Lib.hid (BF.out.step' hbz)
              clear hbz
              go_wp2_with fail
              go_ret
              exact ⟨rfl, BZ.out⟩

end Go.Proofs.YtlmmgjgkmbmgpaaGreatDoor



/- The law MigrateCarries returns true for every input, and each argument reads behind the call as it read before; the tables of unicode/utf8 that it reads are tied to the program's text. Conditions: none beyond the card. The frame is printed by gen_card.py. -/
namespace Go.Proofs.YtlmmgjgkmbmgpaaGreatDoor.migrateCarries
open Go Go.Shelf Go.ChangeShapes Go.WideShapes Go.ChangeAt Go.RowKit Go.Lib
set_option linter.unusedVariables false

theorem own : ownKnob Tryz.prog.godebug = none := by kernel_rfl
theorem laidOut : laidOutB Tryz.prog = true := by kernel_rfl
theorem accept_eq : Rows.laid_unicode_utf8_acceptRanges = Lib.acceptData := by kernel_rfl
theorem first_eq : Rows.laid_unicode_utf8_first = Lib.firstData := Go.Pinned.utf8First_eq
noncomputable def laidWorld (os : Os) : World :=
  let w0 := World.holding Tryz.prog os ⟨#[], #[], []⟩
  let put (h : Array Obj) (g : Nat) (cs : Array Value) : Array Obj := h.modify g fun
    | .cells _ t frozen => .cells cs t frozen
    | o => o
  let h1 := put w0.heap 1 (Lib.firstTab.map fun z => Value.int .u8 z).toArray
  let h2 := put h1 2 ((List.range 16).flatMap fun i => [Value.int .u8 (Lib.accLo i), Value.int .u8 (Lib.accHi i)]).toArray
  { w0 with heap := h2 }
theorem laid_met (os : Os) (args : Array Value) : laidMet Tryz.prog Rows.migrateCarriesRow.laid ((laidWorld os).forCall (fun _ _ => 0) ⟨#[], args, []⟩).memory :=
  (LaidIn.of_run (l := [("unicode/utf8.acceptRanges", Rows.laid_unicode_utf8_acceptRanges), ("unicode/utf8.first", Rows.laid_unicode_utf8_first)]) [2, 1] 8 (by kernel_rfl) (by kernel_rfl) (by kernel_rfl) (by kernel_rfl)).met

theorem witness_row (os : Os) {H : Type} (enc : TypeId × Value → H) :
    (OpenSpec.ofChange Rows.migrateCarriesSpec).preRow enc Tryz.prog Tryz.f3 Rows.migrateCarriesRow.domain false Rows.migrateCarriesRow.laid ((laidWorld os).forCall (fun _ _ => 0) ⟨#[], #[.agg #[.string ⟨#[]⟩, .slice none 0 0, .bool false, .int .i64 0, .int .i64 0, .slice none 0 0, .string ⟨#[]⟩, .int .i64 0, .slice none 0 0, .slice none 0 0, .int .i64 0]], []⟩).memory #[.agg #[.string ⟨#[]⟩, .slice none 0 0, .bool false, .int .i64 0, .int .i64 0, .slice none 0 0, .string ⟨#[]⟩, .int .i64 0, .slice none 0 0, .slice none 0 0, .int .i64 0]] := by
  have hw : (DataW.whole enc Tryz.prog ((laidWorld os).forCall (fun _ _ => 0) ⟨#[], #[.agg #[.string ⟨#[]⟩, .slice none 0 0, .bool false, .int .i64 0, .int .i64 0, .slice none 0 0, .string ⟨#[]⟩, .int .i64 0, .slice none 0 0, .slice none 0 0, .int .i64 0]], []⟩).memory Tryz.f3.params.toList (OpenSpec.ofChange Rows.migrateCarriesSpec).vars false (#[.agg #[.string ⟨#[]⟩, .slice none 0 0, .bool false, .int .i64 0, .int .i64 0, .slice none 0 0, .string ⟨#[]⟩, .int .i64 0, .slice none 0 0, .slice none 0 0, .int .i64 0]] : Array Value).toList 8).map (fun x => (x.1, x.2.1)) =
      some ([.agg [.agg [.lit (.string []), .agg [.nil, .lit (.bool false)], .lit (.int .i64 0), .lit (.int .i64 0), .nil], .lit (.string []), .lit (.int .i64 0), .nil, .nil, .lit (.int .i64 0)]], []) := by kernel_rfl
  obtain ⟨⟨x1, x2, x3⟩, hx, hx1⟩ := Option.map_eq_some_iff.1 hw
  simp only [Prod.mk.injEq] at hx1
  obtain ⟨rfl, rfl⟩ := hx1
  exact OpenSpec.preRow_of_cond 8 hx (by kernel_rfl) (fun k hk => by cases hk) (by kernel_rfl) (laid_met os _)

set_option maxRecDepth 100000 in
set_option maxHeartbeats 2000000 in
theorem lifted (os : Os) (started : os.Started) (H : Type) (enc : TypeId × Value → H) (F0 : Stop.Interp) :
    ReturnsInHanded {} Tryz.checked os 3 .any ((OpenSpec.ofChange Rows.migrateCarriesSpec).preRow enc Tryz.prog Tryz.f3 Rows.migrateCarriesRow.domain false Rows.migrateCarriesRow.laid) (((OpenSpec.ofChange Rows.migrateCarriesSpec).at F0).post enc Tryz.prog Tryz.f3 false true false false) := by
  refine returnsInHanded_of_row (C := Tryz.checked) (s := OpenSpec.ofChange Rows.migrateCarriesSpec) own started (by kernel_rfl) Tryz.func3
    (witness_row_atRef (enc := enc) (C := Tryz.checked) false (laidWorld os) #[.agg #[.string ⟨#[]⟩, .slice none 0 0, .bool false, .int .i64 0, .int .i64 0, .slice none 0 0, .string ⟨#[]⟩, .int .i64 0, .slice none 0 0, .slice none 0 0, .int .i64 0]] rfl (by kernel_rfl) (by kernel_rfl) (by kernel_rfl) (witness_row os enc)) ?_
  intro W base args ds gs before hval0 hW hq1 hq2 hwt hL hq5 hq6
  have hval : ∀ (j : Nat) t v, Tryz.f3.params[j]? = some t → args[j]? = some v → Value.okWide Tryz.prog W .any base t v := hval0
  have hW' := hW
  obtain ⟨p, q, hA0, hV, rfl, hfz, hnd⟩ := hW
  have hA : DataW.TrodAll enc Tryz.prog W 0 (fun _ => true) true Tryz.f3.params.toList args.toList ds p := hA0
  rw [Tryz.params3] at hA hval hwt
  obtain ⟨v0, vs0, d0, ds0, p0, q0, hargs, rfl, rfl, h0, r0⟩ := trodAll_cons hA
  obtain ⟨rfl, rfl, rfl⟩ := trodAll_nil r0
  obtain rfl : args = #[v0] := by cases args; simp_all
  obtain ⟨rfl, rfl⟩ := trodVars_none hV
  obtain ⟨hlt0, hwt0⟩ := light_each hwt
  have trd0 := h0
  have lt0 : ∀ x ∈ p0, x.block < W.heap.size := by obtain ⟨m, hm⟩ := trd0; exact DataW.trod_lt m _ _ _ hm
  obtain ⟨ra0, R0, lo0, tt0, ea0, DA0, dn0, dc0, ps0, XA0, xn0, xc0, xs0, rfl, o0, oL0, oD0, oX0⟩ := open_story (hval 0 31 v0 rfl rfl) h0 hlt0
  clear hA0 hval0
  have htab : Tabs W := by
    have r1 := Lib.laidMet.reads hL (.tail _ (.head _))
    have r2 := Lib.laidMet.reads hL (.head _)
    rw [first_eq] at r1
    rw [accept_eq] at r2
    exact utf8Tabs_of_readsT (U8Types.of196 laysValid) ⟨by kernel_rfl, by kernel_rfl, by kernel_rfl, by kernel_rfl, by kernel_rfl, by kernel_rfl, by kernel_rfl⟩ r1 r2
  refine (migrateCarries_walk R0 ra0 lo0 tt0 ea0 DA0 dn0 dc0 ps0 XA0 xn0 xc0 xs0 W htab o0 oL0 oD0 oX0).mono fun e W' ⟨he, bel⟩ => ?_
  subst he
  exact ⟨_, rfl, _, _, _, [], _, [], hW', trodAll_mk1 (shut_bool Tryz.underlying4 _), (trodAll_cons_mk (Below.trod laidOut (by kernel_rfl) (of_decide_eq_true (by kernel_rfl)) trd0 bel lt0) trodAll_mk0), rfl, bel.frame _, fun h => by cases h⟩

theorem over : Rows.MigrateCarriesSaid :=
  OpenClaim.holds_of_cond 3 Tryz.f3 rfl rfl rfl rfl rfl rfl rfl ⟨rfl, rfl, rfl, rfl, rfl⟩ rfl rfl rfl rfl rfl (by kernel_rfl) Tryz.func3 (by kernel_rfl)
    (of_decide_eq_true (by kernel_rfl)) (by unfold Func.isWrapper; first | (rw [if_pos (by decide +kernel)]; kernel_rfl) | (rw [if_neg (by decide +kernel)]; exact ⟨rfl, rfl⟩))
    (fun os started H enc _ F0 => by rw [OpenClaim.pre_eq_preRow]; exact lifted os started H enc F0)

theorem proved : Rows.MigrateCarriesCardSaid :=
  Claim7.holds_tied_plain_at .later [] [.data, .pinned] true (true, "5eb92f9e9b36b8eadbebde4cf3d0f215bcad4147f9c0798263e8c8085d50e81b") false
    over (fun _ h => by cases h) (by kernel_rfl) (fun _ h => by cases h) migrateCarries_row_tie rfl ⟨rfl, rfl⟩ (by kernel_rfl) rfl
    (fun f fn hf hfn => by
      obtain rfl : f = 3 := Option.some.inj ((show Tryz.prog.funcNamed "docstore/docstorelaw51.MigrateCarries" = some 3 by kernel_rfl).symm.trans hf) |>.symm
      obtain rfl : fn = Tryz.f3 := (Option.some.inj (Tryz.func3.symm.trans hfn)).symm
      exact ⟨by kernel_rfl, fun j t ht => by
        rw [Tryz.params3] at ht
        have h3 : t = 31 := by
          rcases j with _ | j
          · exact (by simpa using ht.symm)
          · simp at ht
        rcases h3 with rfl
        exact (show Tryz.prog.wantsStandIn 31 = false by kernel_rfl)⟩)
    (by kernel_rfl)
#print axioms proved
end Go.Proofs.YtlmmgjgkmbmgpaaGreatDoor.migrateCarries


