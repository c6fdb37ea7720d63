/- Parts of the proof, joined: RoOneWalk, ChOpenA, ValOpenL, RoOpen, RoOneLaw. -/
import Derived.Test.YtblepmmibhphhaaGreatDoorRn21
import Derived.Test.YtblepmmibhphhaaGreatDoorRn18
import Derived.Test.YtblepmmibhphhaaGreatDoorRn8
import Derived.Test.YtblepmmibhphhaaGreatDoorRn2
import Derived.Test.YtblepmmibhphhaaGreatDoorRn4
import Derived.Test.YtblepmmibhphhaaGreatDoorCards
import Derived.Test.YtblepmmibhphhaaGreatDoorTie
import Derived.Deep.RegionHeld3
import Derived.Lib.SmallJoins
import Derived.ProofKit
import Derived.OpenShut
import Derived.Deep.Slices
import Derived.Deep.Fields
import Derived.ChangeSame
import Derived.Lib.LaidIn
import Derived.Lib.LaidU8T
import Derived.PinnedBridge
import Derived.Deep.DeepHandedRow
import Derived.Deep.DeepWitnessRowRef
import Derived.SizedLaws
import Derived.ShutString
import Derived.ChangeOld
import Derived.Below
import Derived.SevenTiedAt
/- The walk of RouterOne. -/
namespace Go.Proofs.YtblepmmibhphhaaGreatDoor
open Go.RowKit
set_option linter.unusedSimpArgs false

set_option maxRecDepth 100000 in
set_option maxHeartbeats 8000000 in
theorem routerOne_walk (R : Ro) (a : RA) (A : Option Addr) (n cc : Nat) (ps : List PV) (key : ByteArray) (w : World) (hT : Tabs w) (h : RR w a R) (hp : SL (fun _ => True) w A n cc ps) :
    Calls Tryz.prog 7 #[rval a R, .slice A n cc, .string key] w fun e w' => e = .returned (.bool true) ∧ Below w.heap.size w w' := by
  have HT := Lib.hid hT
  have H := Lib.hid h
  have HPS := Lib.hid hp
  have HNL : Hid (n = ps.length) := hp.sr.ln
  have HFI := Lib.hid fun (wr : World) (hb : Below w.heap.size w wr) => fits_any R a ps A n cc wr (h.step hb) (hp.step hb)
  obtain ⟨KA, kn, kc, CA, cn, c1⟩ := a
  have B0 : Hid (Blk (w.alloc (Obj.cells (rarr ⟨KA, kn, kc, CA, cn, c1⟩ R) 45)) w.heap.size 45 (rarr ⟨KA, kn, kc, CA, cn, c1⟩ R)) := Blk.new_at rfl
  have BE := Lib.hid ((Below.refl w.heap.size w).alloc (Nat.le_refl _) (Obj.cells (rarr ⟨KA, kn, kc, CA, cn, c1⟩ R) 45))
  clear hT h hp
  go_enter Tryz.func7, Tryz.ntmps7
  go_upto_region 1 with fail
  change Code.wp _ _ _ _ (w.alloc (Obj.cells (rarr ⟨KA, kn, kc, CA, cn, c1⟩ R) 45))
  generalize w.alloc (Obj.cells (rarr ⟨KA, kn, kc, CA, cn, c1⟩ R) 45) = wa at *
  obtain ⟨q0, q1, q2, q3, q4, q5, qz⟩ := blk_ro B0.out
  simp only at q1 q5
  cases hf : fitsB R (ps.map Prod.snd)
  · rw [hf] at HFI
    clear hf
    go_wp2_with fail
    refine (HFI.out _ BE.out).mono ?_
    rintro e w1 ⟨rfl, hb⟩
    replace BE := Lib.hid (BE.out.step' hb)
    clear hb HFI q0 q1 q2 q3 q4 q5 qz
    go_wp2_with fail
    refine (awake50_any _ (HT.out.step BE.out)).mono ?_
    rintro e w2 ⟨rfl, hb⟩
    have CE := Lib.hid (BE.out.step' hb)
    clear hb
    go_wp2_with fail
    go_ret
    exact ⟨rfl, CE.out⟩
  rw [hf] at HFI
  obtain ⟨hn40, hvr, hdoc⟩ := fits_all hf
  have HVR := Lib.hid hvr
  have hn : n ≤ 40 := by rw [List.length_map] at hn40; have := HNL.out; omega
  have h8 : R.ks.length ≤ 8 := (by have := (keyE_parts hvr.ke).1; omega)
  have hnz : (n : Int) ≤ 40 := by omega
  have H8 := Lib.hid h8
  have HN40 := Lib.hid hn
  clear hf hn40 hvr hdoc h8 hn
  go_wp2_with fail
  refine (HFI.out _ BE.out).mono ?_
  rintro e w1 ⟨rfl, hb⟩
  replace B0 := Lib.hid (B0.out.step hb)
  replace BE := Lib.hid (BE.out.step' hb)
  clear hb HFI q0 q1 q2 q3 q4 q5 qz
  go_wp2_with fail
  have HN0 := Lib.hid (n_zero HVR.out key)
  have HC0 := Lib.hid (cnt_zero HVR.out (ps.map Prod.snd))
  have HOW := Lib.hid fun (j : Int) (wr : World) (hb : Below w.heap.size w wr) => owns_any R ⟨KA, kn, kc, CA, cn, c1⟩ j key wr (H.out.step hb)
  go_loopw [22, 7, 8] (fun v22 v7 v8 wr => ∃ j : Nat, j ≤ 8 ∧ v22 = .int .i64 j ∧ v7 = .int .i64 (nB R key j : Nat) ∧ v8 = .int .i64 (cntB R (ps.map Prod.snd) j : Nat) ∧ Below w1.heap.size w1 wr) (fun v22 _ _ _ => 8 - (intOf v22).toNat)
  case atStart => exact ⟨0, by omega, rfl, by rw [show ((0 : Nat) : Int) = 0 from rfl, HN0.out]; rfl, by rw [show ((0 : Nat) : Int) = 0 from rfl, HC0.out]; rfl, Below.refl _ _⟩
  case round =>
    obtain ⟨j, hj, rfl, rfl, rfl, hbel⟩ := hrel
    have HB := Lib.hid hbel
    have RB := Lib.hid (B0.out.step hbel)
    have WE := Lib.hid (BE.out.step' hbel)
    obtain ⟨q0, q1, q2, q3, q4, q5, qz⟩ := blk_ro RB.out
    simp only at q1 q5
    clear hbel
    have CL := Lib.hid (cnt_le R (ps.map Prod.snd) j)
    by_cases hlt : j < 8
    · have hj8 : (j : Int) < 8 := by omega
      have hj0 : (0 : Int) ≤ (j : Int) := by omega
      have NS := Lib.hid (n_step HVR.out key (j : Int))
      have CS1 := Lib.hid (cnt_step HVR.out (ps.map Prod.snd) (j : Int))
      have HO := Lib.hid (HOW.out (j : Int) wr WE.out)
      obtain ⟨N0, hN0⟩ : ∃ N0, nB R key (j : Int) = N0 := ⟨_, rfl⟩
      have hNb : N0 ≤ 1 := by rw [← hN0]; unfold nB; split <;> omega
      obtain ⟨C0, hC0⟩ : ∃ C0, cntB R (ps.map Prod.snd) (j : Int) = C0 := ⟨_, rfl⟩
      have hCb : C0 ≤ 40 := by have := CL.out; rw [hC0, List.length_map] at this; have := HNL.out; have := HN40.out; omega
      rw [hN0] at NS
      rw [hC0] at CS1
      rw [hN0, hC0]
      clear hN0 hC0 CL
      obtain ⟨o, ho⟩ : ∃ o, ownsB R (j : Int) key = o := ⟨_, rfl⟩
      rw [ho] at HO NS
      clear ho
      obtain ⟨N1, hN1⟩ : ∃ N1, nB R key ((j : Int) + 1) = N1 := ⟨_, rfl⟩
      rw [hN1] at NS
      have HN1 := Lib.hid hN1
      clear hN1
      have E1 : Hid (N1 = N0 + (if o = true then 1 else 0)) := NS.out
      clear NS
      cases o
      all_goals
        have E2 : Hid (N1 = N0 + _) := E1.out
        clear E1
        go_wp2_with fail
        refine HO.out.mono ?_
        rintro e w2 ⟨rfl, hb⟩
        have HB2 := Lib.hid (HB.out.step' hb)
        have RB2 := Lib.hid (RB.out.step hb)
        have WE2 := Lib.hid (WE.out.step' hb)
        clear hb q0 q1 q2 q3 q4 q5 qz HO RB HB WE
        obtain ⟨q0, q1, q2, q3, q4, q5, qz⟩ := blk_ro RB2.out
        simp only at q1 q5
        go_wp2_with fail
        refine (own_any R ⟨KA, kn, kc, CA, cn, c1⟩ (j : Int) ps A n cc _ (HT.out.step WE2.out) (H.out.step WE2.out) (HPS.out.step WE2.out) H8.out (Nat.le_trans HN40.out (by decide))).mono ?_
        rintro e w3 ⟨A1, m1, d1, qs, rfl, hq, hs, hb⟩
        have HQ := Lib.hid hq
        have HS := Lib.hid hs
        have HB3 := Lib.hid (HB2.out.step' hb)
        have RB3 := Lib.hid (RB2.out.step hb)
        have WE3 := Lib.hid (WE2.out.step' hb)
        have hml : m1 = (ownL R (j : Int) (ps.map Prod.snd)).length := by rw [← hq, List.length_map]; exact hs.sr.ln
        have hm40 : m1 ≤ 40 := by rw [hml]; refine Nat.le_trans (List.length_filter_le _ _) ?_; rw [List.length_map]; have := HNL.out; have := HN40.out; omega
        have hCS : cntB R (ps.map Prod.snd) ((j : Int) + 1) = C0 + m1 := by rw [CS1.out, hml]
        have HCS := Lib.hid hCS
        have HML := Lib.hid hml
        have HM40 := Lib.hid hm40
        have hmz : (m1 : Int) ≤ 40 := by omega
        clear hq hs hb hml hm40 hCS CS1 q0 q1 q2 q3 q4 q5 qz RB2 HB2 WE2
        go_wp2_with fail
        go_loopw [36, 8] (fun v36 v8 wx => ∃ i : Nat, i ≤ m1 ∧ v36 = .int .i64 i ∧ v8 = .int .i64 ((C0 + i : Nat) : Int) ∧ Below w3.heap.size w3 wx) (fun v36 _ _ => m1 - (intOf v36).toNat)
        case atStart => exact ⟨0, Nat.zero_le _, rfl, rfl, Below.refl _ _⟩
        case round =>
          obtain ⟨i, hi, rfl, rfl, hbel⟩ := hrel
          by_cases hlm : i < m1
          · obtain ⟨p, hp⟩ : ∃ p, qs[i]? = some p := ⟨_, List.getElem?_eq_getElem (by have := HS.out.sr.ln; omega)⟩
            obtain ⟨b, off, hA, _, hat, hrv⟩ := HS.out.vat hp
            subst hA
            obtain ⟨y0, y1, y2, y3, y4⟩ := hat.keep (hbel.block b hat.lt)
            have hrl : rouR R p.2 = ((j : Int), 0) := own_route HVR.out (L := ps.map Prod.snd) (by rw [← HQ.out]; exact List.mem_map.2 ⟨p, List.mem_of_getElem? hp, rfl⟩)
            have HRV := Lib.hid (hrv.step hbel)
            have WE4 := Lib.hid (WE3.out.step' hbel)
            have RB4 := Lib.hid (RB3.out.step hbel)
            have HB4 := Lib.hid hbel
            have HRL := Lib.hid hrl
            have i0' : (0 : Int) ≤ (i : Int) := by omega
            have i1' : (i : Int) < (m1 : Int) := by omega
            clear hp hat hrv hrl hbel
            go_upto_region 12 with fail
            change Code.wp _ _ _ _ (wr.alloc (Obj.cells p.1.arr 28))
            have JB : Hid (Blk (wr.alloc (Obj.cells p.1.arr 28)) wr.heap.size 28 p.1.arr) := Blk.new_at rfl
            replace HRV := Lib.hid (HRV.out.alloc (Obj.cells p.1.arr 28))
            replace RB4 := Lib.hid (RB4.out.alloc (Obj.cells p.1.arr 28))
            replace HB4 := Lib.hid (HB4.out.alloc HB4.out.size (Obj.cells p.1.arr 28))
            replace WE4 := Lib.hid (WE4.out.alloc WE4.out.size (Obj.cells p.1.arr 28))
            generalize wr.alloc (Obj.cells p.1.arr 28) = wb at *
            generalize wr.heap.size = ga at *
            clear y0 y1 y2 y3 y4
            obtain ⟨a0, a1, a2, a3, a4⟩ := VAt.of_blk JB.out
            simp only [Nat.zero_add] at a0 a1 a2 a3 a4
            obtain ⟨q0, q1, q2, q3, q4, q5, qz⟩ := blk_ro RB4.out
            simp only at q1 q5
            have hro := route_any R ⟨KA, kn, kc, CA, cn, c1⟩ p.2 p.1 wb (HT.out.step WE4.out) (H.out.step WE4.out) HRV.out H8.out
            rw [HRL.out] at hro
            have HRO := Lib.hid hro
            have tj : ((j : Int) != (j : Int)) = false := by simp
            clear hro
            go_wp2_with fail
            refine HRO.out.mono ?_
            rintro e w5 ⟨rfl, hb⟩
            have HB5 := Lib.hid (HB4.out.step' hb)
            clear hb q0 q1 q2 q3 q4 q5 qz a0 a1 a2 a3 a4 HRO HRV RB4 HB4 WE4 JB
            go_wp2_with fail
            go_roundw
            case rel => exact ⟨i + 1, hlm, by go_num, by go_num, HB5.out⟩
            case measure => simp [intOf]; omega
          · obtain rfl : i = m1 := by omega
            have HB4 := Lib.hid (HB3.out.step' hbel)
            clear hbel
            go_wp2_with fail
            go_roundw
            case rel => exact ⟨j + 1, hlt, by go_num, by rw [show ((j + 1 : Nat) : Int) = (j : Int) + 1 by omega, HN1.out, E2.out]; first | rfl | go_num, by rw [show ((j + 1 : Nat) : Int) = (j : Int) + 1 by omega, HCS.out], HB4.out⟩
            case measure => simp [intOf]; omega
    · obtain rfl : j = 8 := by omega
      have HN8 := Lib.hid (n_all HVR.out key)
      have HC8 := Lib.hid (cnt_all HVR.out (ps.map Prod.snd))
      rw [show ((8 : Nat) : Int) = 8 from rfl, HN8.out, HC8.out]
      clear HN8 HC8 CL q0 q1 q2 q3 q4 q5 qz
      have HD0 : Hid (((ps.map Prod.snd).filter (okD R)).length = (((ps.map Prod.snd).drop 0).filter (okD R)).length) := rfl
      have HEE := Lib.hid (keyE_parts HVR.out.ke).2.2
      have HF40 : Hid (∀ i : Nat, (((ps.map Prod.snd).drop i).filter (okD R)).length ≤ 40) := fun i => by
        refine Nat.le_trans (List.length_filter_le _ _) ?_
        rw [List.length_drop, List.length_map]
        have := HNL.out; have := HN40.out; omega
      go_wp2_with fail
      go_loopw [59, 8] (fun v59 v8 wx => ∃ i : Nat, i ≤ n ∧ v59 = .int .i64 i ∧ v8 = .int .i64 ((((ps.map Prod.snd).drop i).filter (okD R)).length : Nat) ∧ Below wr.heap.size wr wx) (fun v59 _ _ => n - (intOf v59).toNat)
      case atStart => exact ⟨0, Nat.zero_le _, rfl, rfl, Below.refl _ _⟩
      case round =>
        obtain ⟨i, hi, rfl, rfl, hbel⟩ := hrel
        have RB3 := Lib.hid (RB.out.step hbel)
        have WE3 := Lib.hid (WE.out.step' hbel)
        have HB3 := Lib.hid hbel
        have F40 := Lib.hid (HF40.out i)
        clear hbel
        by_cases hlt2 : i < n
        · obtain ⟨p, hp⟩ : ∃ p, ps[i]? = some p := ⟨_, List.getElem?_eq_getElem (by have := HNL.out; omega)⟩
          obtain ⟨b, off, hA, _, hat, hrv⟩ := HPS.out.vat hp
          subst hA
          have hst := okD_at (R := R) (l := ps.map Prod.snd) (i := i) (x := p.2) (by rw [List.getElem?_map, hp]; rfl)
          have HRV := Lib.hid hrv
          obtain ⟨y0, y1, y2, y3, y4⟩ := hat.keep (WE3.out.block b hat.lt)
          obtain ⟨q0, q1, q2, q3, q4, q5, qz⟩ := blk_ro RB3.out
          simp only at q1 q5
          have g1 : ∀ kk : BW wr, kk.val.cell? ⟨w.heap.size, 1, none⟩ = some (.slice KA kn kc) := fun kk => kk.cell q1
          have g2 : ∀ kk : BW wr, kk.val.cell? ⟨w.heap.size, 2, none⟩ = some (.bool R.ha) := fun kk => kk.cell q2
          have Y0 : ∀ kk : BW wr, kk.val.cell? ⟨b, off + i * 5, none⟩ = some (.int .i64 p.1.k) := fun kk => kk.cell y0
          have Y1 : ∀ kk : BW wr, kk.val.cell? ⟨b, off + i * 5 + 1, none⟩ = some (.int .i64 p.1.n) := fun kk => kk.cell y1
          have Y2 : ∀ kk : BW wr, kk.val.cell? ⟨b, off + i * 5 + 2, none⟩ = some (.string p.1.t) := fun kk => kk.cell y2
          have Y3 : ∀ kk : BW wr, kk.val.cell? ⟨b, off + i * 5 + 3, none⟩ = some (.slice p.1.LA p.1.ln p.1.lc) := fun kk => kk.cell y3
          have Y4 : ∀ kk : BW wr, kk.val.cell? ⟨b, off + i * 5 + 4, none⟩ = some (.slice p.1.DA p.1.dn p.1.dc) := fun kk => kk.cell y4
          obtain ⟨⟨K1, K2⟩, hK⟩ : ∃ K, encR R.ks R.ha p.2 = K := ⟨_, rfl⟩
          have K3 : Hid (∀ kk : BW wr, Calls Tryz.prog 13 #[.agg #[.slice KA kn kc, .bool R.ha], p.1.val] kk.val fun e w'' => e = .returned (.tuple #[.string K1, .int .i64 K2]) ∧ ∃ kk : BW wr, w'' = kk.val) := fun kk =>
            Calls.bw (by have := rsenc_any R.ks R.ha KA kn kc p.2 p.1 kk.val ((H.out.step WE3.out).ks.step kk.below) ((HRV.out.step WE3.out).step kk.below) H8.out; rw [enc_same HEE.out, hK] at this; exact this)
          have hkd : okD R p.2 = decide (K2 = 0) := by unfold okD; rw [hK]
          rw [hkd] at hst
          obtain ⟨C1, hC1⟩ : ∃ C1, (((ps.map Prod.snd).drop (i + 1)).filter (okD R)).length = C1 := ⟨_, rfl⟩
          have hC1b : C1 ≤ 40 := by rw [← hC1]; exact HF40.out (i + 1)
          rw [hC1] at hst
          have HC1 := Lib.hid hC1
          have i0' : (0 : Int) ≤ (i : Int) := by omega
          have i1' : (i : Int) < (n : Int) := by omega
          clear hp hat hrv hK hkd hC1 F40
          by_cases hk : K2 = 0
          · subst hk
            rw [decide_eq_true rfl, if_pos rfl] at hst
            rw [hst]
            clear hst
            go_upto_region 21 with fail
            clear y0 y1 y2 y3 y4 q0 q1 q2 q3 q4 q5 qz
            refine wp_region_bw (by kernel_rfl) (by kernel_rfl) ?_
            repeat (go_big_quiet_step (with_reducible exact K3.out _))
            refine wpQuiet_nil ?_
            rintro _ ⟨kw, rfl⟩
            have HB4 := Lib.hid (HB3.out.step' kw.below)
            clear g1 g2 Y0 Y1 Y2 Y3 Y4 K3 RB3 WE3 HB3
            generalize kw.val = w5 at *
            go_wp2_with fail
            go_roundw
            case rel => exact ⟨i + 1, hlt2, by go_num, by rw [HC1.out]; go_num, HB4.out⟩
            case measure => simp [intOf]; omega
          · have hkb : (K2 == 0) = false := by simpa using hk
            rw [decide_eq_false hk, if_neg (by decide), Nat.zero_add] at hst
            rw [hst]
            clear hst hk
            go_upto_region 21 with fail
            clear y0 y1 y2 y3 y4 q0 q1 q2 q3 q4 q5 qz
            refine wp_region_bw (by kernel_rfl) (by kernel_rfl) ?_
            repeat (go_big_quiet_step (with_reducible exact K3.out _))
            refine wpQuiet_nil ?_
            rintro _ ⟨kw, rfl⟩
            have HB4 := Lib.hid (HB3.out.step' kw.below)
            clear g1 g2 Y0 Y1 Y2 Y3 Y4 K3 RB3 WE3 HB3
            generalize kw.val = w5 at *
            go_wp2_with fail
            go_roundw
            case rel => exact ⟨i + 1, hlt2, by go_num, by rw [HC1.out], HB4.out⟩
            case measure => simp [intOf]; omega
        · obtain rfl : i = n := by omega
          have hz : (((ps.map Prod.snd).drop i).filter (okD R)).length = 0 := by
            rw [List.drop_of_length_le (by rw [List.length_map]; have := HNL.out; omega)]
            rfl
          rw [hz]
          clear hz
          have HA := Lib.hid (awake50_any _ (HT.out.step WE3.out))
          go_wp2_with fail
          refine HA.out.mono ?_
          rintro e w6 ⟨rfl, hb⟩
          have CE := Lib.hid (WE3.out.step' hb)
          clear hb
          go_wp2_with fail
          go_ret
          exact ⟨rfl, CE.out⟩

end Go.Proofs.YtblepmmibhphhaaGreatDoor


/- A list of texts that came in, opened. · A list of orders that came in, opened; what New is called with. · Routes that came in, opened. · A change that came in, opened. -/
namespace Go.Proofs.YtblepmmibhphhaaGreatDoor
set_option maxRecDepth 100000
open Go.ChangeShapes Go.WideShapes Go.ChangeAt Go.RowKit Go.Joins Go.Deep

theorem bytes_string : Tryz.prog.bytesOf 9 = 16 := by kernel_rfl
section
variable {H : Type} {enc : TypeId × Value → H} {W : World} {base : Nat} {spare : Nat → Bool} {held : Bool}
theorem read_texts (n : Nat) {v : Value} {y : DataW H × List MemPlace} (h : DataW.trod enc Tryz.prog W base spare held n 63 [v] = some y) (hw : Light 63 y.1) :
    ∃ (A : Option Addr) (n c : Nat) (xs : List ByteArray), v = .slice A n c ∧ ST W A n c xs := by
  rcases DataW.trod_slice Tryz.underlying63 h with ⟨hcs, _⟩ | ⟨a, len, cap, elems, rest, n', rfl, hcs, rfl, _, hlc, hcm, hel, hat, _, _⟩
  · simp at hcs
    exact ⟨none, 0, 0, [], hcs, ⟨SR.nil, by show 0 * 16 ≤ reach; decide, fun s hs => by simp at hs⟩⟩
  · simp at hcs
    subst hcs
    simp only [Light, DataW.weights, Tryz.underlying63, List.mem_cons, List.mem_append, bytes_string] at hw
    have hsz : len * 16 ≤ reach := by
      have := hw _ (.inl rfl)
      simp only [List.length_map, hel] at this
      have h2 : len * 16 ≤ (len + rest.length) * 16 := Nat.mul_le_mul_right _ (by omega)
      have := le_reach
      omega
    have wl := light_all (l := elems.map (·.1)) (fun z hz => hw z (.inr (.inl hz)))
    rcases Nat.eq_zero_or_pos len with h0 | hp
    · subst h0
      exact ⟨some a, 0, cap, [], rfl, ⟨SR.nil, by show 0 * 16 ≤ reach; decide, fun s hs => by simp at hs⟩⟩
    have step : ∀ i, i < len → ∃ s : ByteArray, W.cells? base (a.add (i * 1)) 1 = some [.string s] ∧ s.size ≤ reach := by
      intro i hi
      have h1 := hat i hi
      rw [cells_string, List.getElem?_eq_getElem (by omega)] at h1
      obtain ⟨cs', hcs', ht'⟩ := Option.bind_eq_some_iff.1 h1
      have hwi := wl _ (List.mem_map_of_mem (List.getElem_mem (l := elems) (n := i) (by omega)))
      generalize elems[i] = q at *
      obtain ⟨s, e0, rfl, _⟩ := DataW.trod_string Tryz.underlying9 ht'
      subst e0
      refine ⟨s, hcs', Nat.le_trans (hwi s.size ?_) le_reach⟩
      simp [DataW.weights]
    obtain ⟨s0, h0, _⟩ := step 0 hp
    obtain ⟨b, off, ha, _⟩ := cells_at h0 (by omega)
    have ha' : a = ⟨b, off, none⟩ := by simpa [Addr.add] using ha
    subst ha'
    obtain ⟨f, hf⟩ := choose_fn (p := fun i (s : ByteArray) => W.cell? ⟨b, off + i, none⟩ = some (.string s) ∧ s.size ≤ reach) ByteArray.empty len (fun i hi => by
      obtain ⟨s, hcs', hs⟩ := step i hi
      rw [addr_add] at hcs'
      obtain ⟨b', off', ha', hc⟩ := cells_at hcs' (by omega)
      injection ha' with e1 e2
      subst e1 e2
      have := hc 0 (by omega)
      rw [Nat.mul_one] at this
      exact ⟨s, this, hs⟩)
    refine ⟨_, len, cap, (List.range len).map f, rfl, ⟨⟨by simp, hlc, fun _ => ⟨b, off, rfl, World.block_lt_of_cell? W _ (hf 0 hp).1, fun i x hi j u hj => ?_⟩⟩, hsz, fun s hs => ?_⟩⟩
    · have hlt : i < len := by have := (List.getElem?_eq_some_iff.1 hi).1; simpa using this
      rw [List.getElem?_map, List.getElem?_range hlt] at hi
      simp only [Option.map_some, Option.some.injEq] at hi
      subst hi
      have hj0 : j = 0 := by have := (List.getElem?_eq_some_iff.1 hj).1; simpa [recT] using this
      subst hj0
      simp [recT] at hj
      subst hj
      rw [Nat.mul_one, Nat.add_zero]
      exact (hf i hlt).1
    · obtain ⟨i, hi, rfl⟩ := List.mem_map.1 hs
      exact (hf i (List.mem_range.1 hi)).2
theorem open_texts {r : Reach} {b0 : Nat} {v : Value} {d : DataW H} {p : List MemPlace} (hv : Value.okWide Tryz.prog W r b0 63 v) (h : DataW.Trod enc Tryz.prog W base spare held 63 v d p) (hw : Light 63 d) :
    ∃ (A : Option Addr) (n c : Nat) (xs : List ByteArray), v = .slice A n c ∧ ST W A n c xs := by
  obtain ⟨a, len, cap, rfl⟩ := okWide_slice Tryz.underlying63 hv
  obtain ⟨fuel, hf⟩ := h
  exact read_texts fuel hf hw
end
end Go.Proofs.YtblepmmibhphhaaGreatDoor

namespace Go.Proofs.YtblepmmibhphhaaGreatDoor
set_option maxRecDepth 100000
open Go.ChangeShapes Go.WideShapes Go.ChangeAt Go.RowKit Go.Joins Go.Deep

theorem bytes_order : Tryz.prog.bytesOf 65 = 32 := by kernel_rfl
theorem cells_order : Tryz.prog.cellsOf 65 = 2 := by kernel_rfl
theorem cells_texts : Tryz.prog.cellsOf 63 = 1 := by kernel_rfl
theorem cells_bool : Tryz.prog.cellsOf 4 = 1 := by kernel_rfl
section
variable {H : Type} {enc : TypeId × Value → H} {W : World} {base : Nat} {spare : Nat → Bool} {held : Bool}
theorem read_orders (n : Nat) {v : Value} {y : DataW H × List MemPlace} (h : DataW.trod enc Tryz.prog W base spare held n 22 [v] = some y) (hw : Light 22 y.1) :
    ∃ (A : Option Addr) (n c : Nat) (ks : List Od), v = .slice A n c ∧ KS W A n c ks := by
  rcases DataW.trod_slice Tryz.underlying22 h with ⟨hcs, _⟩ | ⟨a, len, cap, elems, rest, n', rfl, hcs, rfl, _, hlc, hcm, hel, hat, _, _⟩
  · simp at hcs
    exact ⟨none, 0, 0, [], hcs, KS.nil⟩
  · simp at hcs
    subst hcs
    simp only [Light, DataW.weights, Tryz.underlying22, List.mem_cons, List.mem_append, bytes_order] at hw
    have hsz : len * 32 ≤ reach := by
      have := hw _ (.inl rfl)
      simp only [List.length_map, hel] at this
      have h2 : len * 32 ≤ (len + rest.length) * 32 := Nat.mul_le_mul_right _ (by omega)
      have := le_reach
      omega
    have wl := light_all (l := elems.map (·.1)) (fun z hz => hw z (.inr (.inl hz)))
    rcases Nat.eq_zero_or_pos len with h0 | hp
    · subst h0
      exact ⟨some a, 0, cap, [], rfl, KS.nil⟩
    have step : ∀ i, i < len → ∃ (o : OC) (q : Od), W.cells? base (a.add (i * 2)) 2 = some [.slice o.A o.n o.c, .bool o.d] ∧ OR W o q := by
      intro i hi
      have h1 := hat i hi
      rw [cells_order, List.getElem?_eq_getElem (by omega)] at h1
      obtain ⟨cs', hcs', ht'⟩ := Option.bind_eq_some_iff.1 h1
      have hwi := wl _ (List.mem_map_of_mem (List.getElem_mem (l := elems) (n := i) (by omega)))
      generalize elems[i] = q at *
      obtain ⟨ys, n'', rfl, rfl, hcl, hyl, hf⟩ := DataW.trod_struct Tryz.underlying65 ht'
      rw [cells_order] at hcl
      obtain ⟨v0, v1, rfl⟩ := two hcl
      obtain ⟨y0, y1, rfl⟩ := two hyl
      have f0 : DataW.trod enc Tryz.prog W base spare held n'' 63 [v0] = some y0 := by simpa [cells_texts] using hf 0 _ rfl
      have f1 : DataW.trod enc Tryz.prog W base spare held n'' 4 [v1] = some y1 := by simpa [cells_texts, cells_bool] using hf 1 _ rfl
      simp only [Light, DataW.weights, Tryz.underlying65, List.map, DataW.weightsEach, List.mem_append] at hwi
      obtain ⟨A, m, c, xs, rfl, hx⟩ := read_texts n'' f0 (fun z hz => hwi z (.inl hz))
      obtain ⟨d, e1, rfl⟩ := DataW.trod_bool Tryz.underlying4 f1
      simp only [List.cons.injEq, and_true] at e1
      subst e1
      exact ⟨⟨A, m, c, d⟩, ⟨xs, d⟩, hcs', rfl, hx⟩
    obtain ⟨o0, q0, h0, _⟩ := step 0 hp
    obtain ⟨b, off, ha, _⟩ := cells_at h0 (by omega)
    have ha' : a = ⟨b, off, none⟩ := by simpa [Addr.add] using ha
    subst ha'
    obtain ⟨f, hf⟩ := choose_fn (p := fun i (z : OC × Od) => W.cell? ⟨b, off + i * 2, none⟩ = some (.slice z.1.A z.1.n z.1.c) ∧ W.cell? ⟨b, off + i * 2 + 1, none⟩ = some (.bool z.1.d) ∧ OR W z.1 z.2) (o0, q0) len (fun i hi => by
      obtain ⟨o, q, hcs', ho⟩ := step i hi
      rw [addr_add] at hcs'
      obtain ⟨b', off', ha', hc⟩ := cells_at hcs' (by omega)
      injection ha' with e1 e2
      subst e1 e2
      exact ⟨(o, q), hc 0 (by omega), hc 1 (by omega), ho⟩)
    refine ⟨_, len, cap, (List.range len).map fun i => (f i).2, rfl, (List.range len).map (fun i => (f i).1), ⟨by simp, hlc, fun _ => ⟨b, off, rfl, World.block_lt_of_cell? W _ (hf 0 hp).1, fun i x hi j u hj => ?_⟩⟩, hsz, by simp, fun i o q hi hq => ?_⟩
    · have hlt : i < len := by have := (List.getElem?_eq_some_iff.1 hi).1; simpa using this
      rw [List.getElem?_map, List.getElem?_range hlt] at hi
      simp only [Option.map_some, Option.some.injEq] at hi
      subst hi
      have hj2 : j < 2 := by have := (List.getElem?_eq_some_iff.1 hj).1; simpa [recO] using this
      rcases (show j = 0 ∨ j = 1 by omega) with rfl | rfl
      · simp [recO] at hj
        subst hj
        rw [Nat.add_zero]
        exact (hf i hlt).1
      · simp [recO] at hj
        subst hj
        exact (hf i hlt).2.1
    · have hlt : i < len := by have := (List.getElem?_eq_some_iff.1 hi).1; simpa using this
      rw [List.getElem?_map, List.getElem?_range hlt] at hi hq
      simp only [Option.map_some, Option.some.injEq] at hi hq
      subst hi hq
      exact (hf i hlt).2.2
theorem cells_key : Tryz.prog.cellsOf 24 = 2 := by kernel_rfl
theorem cells_orders : Tryz.prog.cellsOf 22 = 1 := by kernel_rfl
theorem three {α : Type} {l : List α} (h : l.length = 3) : ∃ a b c, l = [a, b, c] := by
  match l, h with
  | [a, b, c], _ => exact ⟨a, b, c, rfl⟩
theorem four {α : Type} {l : List α} (h : l.length = 4) : ∃ a b c d, l = [a, b, c, d] := by
  match l, h with
  | [a, b, c, d], _ => exact ⟨a, b, c, d, rfl⟩
end
end Go.Proofs.YtblepmmibhphhaaGreatDoor

namespace Go.Proofs.YtblepmmibhphhaaGreatDoor
set_option maxRecDepth 100000
open Go.ChangeShapes Go.WideShapes Go.ChangeAt Go.RowKit Go.Joins Go.Deep

theorem bytes_chunk : Tryz.prog.bytesOf 58 = 56 := by kernel_rfl
theorem cells_chunk : Tryz.prog.cellsOf 58 = 5 := by kernel_rfl
theorem cells_chunks : Tryz.prog.cellsOf 43 = 1 := by kernel_rfl
theorem cells_routes : Tryz.prog.cellsOf 45 = 6 := by kernel_rfl
section
variable {H : Type} {enc : TypeId × Value → H} {W : World} {base : Nat} {spare : Nat → Bool} {held : Bool}
theorem read_chunks (n : Nat) {v : Value} {y : DataW H × List MemPlace} (h : DataW.trod enc Tryz.prog W base spare held n 43 [v] = some y) (hw : Light 43 y.1) :
    ∃ (A : Option Addr) (n c : Nat) (cs : List Ch), v = .slice A n c ∧ CS W A n c cs := by
  rcases DataW.trod_slice Tryz.underlying43 h with ⟨hcs, _⟩ | ⟨a, len, cap, elems, rest, n', rfl, hcs, rfl, _, hlc, hcm, hel, hat, _, _⟩
  · simp at hcs
    exact ⟨none, 0, 0, [], hcs, CS.nil⟩
  · simp at hcs
    subst hcs
    simp only [Light, DataW.weights, Tryz.underlying43, List.mem_cons, List.mem_append, bytes_chunk] at hw
    have hsz : len * 56 ≤ reach := by
      have := hw _ (.inl rfl)
      simp only [List.length_map, hel] at this
      have h2 : len * 56 ≤ (len + rest.length) * 56 := Nat.mul_le_mul_right _ (by omega)
      have := le_reach
      omega
    rcases Nat.eq_zero_or_pos len with h0 | hp
    · subst h0
      exact ⟨some a, 0, cap, [], rfl, CS.nil⟩
    have step : ∀ i, i < len → ∃ x : Ch, W.cells? base (a.add (i * 5)) 5 = some (recC x) := by
      intro i hi
      have h1 := hat i hi
      rw [cells_chunk, List.getElem?_eq_getElem (by omega)] at h1
      obtain ⟨cs', hcs', ht'⟩ := Option.bind_eq_some_iff.1 h1
      generalize elems[i] = q at *
      obtain ⟨ys, n'', rfl, rfl, hcl, hyl, hf⟩ := DataW.trod_struct Tryz.underlying58 ht'
      rw [cells_chunk] at hcl
      obtain ⟨v0, v1, v2, v3, v4, rfl⟩ := five hcl
      obtain ⟨y0, y1, y2, y3, y4, rfl⟩ := five hyl
      have f0 : DataW.trod enc Tryz.prog W base spare held n'' 9 [v0] = some y0 := by simpa [cells_string] using hf 0 _ rfl
      have f1 : DataW.trod enc Tryz.prog W base spare held n'' 9 [v1] = some y1 := by simpa [cells_string] using hf 1 _ rfl
      have f2 : DataW.trod enc Tryz.prog W base spare held n'' 3 [v2] = some y2 := by simpa [cells_string, cells_int] using hf 2 _ rfl
      have f3 : DataW.trod enc Tryz.prog W base spare held n'' 3 [v3] = some y3 := by simpa [cells_string, cells_int] using hf 3 _ rfl
      have f4 : DataW.trod enc Tryz.prog W base spare held n'' 4 [v4] = some y4 := by simpa [cells_string, cells_int, cells_bool] using hf 4 _ rfl
      obtain ⟨s0, e0, _⟩ := DataW.trod_string Tryz.underlying9 f0
      obtain ⟨s1, e1, _⟩ := DataW.trod_string Tryz.underlying9 f1
      obtain ⟨i2, e2, _⟩ := DataW.trod_int Tryz.underlying3 f2
      obtain ⟨i3, e3, _⟩ := DataW.trod_int Tryz.underlying3 f3
      obtain ⟨b4, e4, _⟩ := DataW.trod_bool Tryz.underlying4 f4
      simp only [List.cons.injEq, and_true] at e0 e1 e2 e3 e4
      subst e0 e1 e2 e3 e4
      exact ⟨⟨s0, s1, i2, i3, b4⟩, hcs'⟩
    obtain ⟨x0, h0⟩ := step 0 hp
    obtain ⟨b, off, ha, hc0⟩ := cells_at h0 (by omega)
    have ha' : a = ⟨b, off, none⟩ := by simpa [Addr.add] using ha
    subst ha'
    have hbl := World.block_lt_of_cell? W _ ((hc0 0 (by omega)).trans (show (recC x0)[0]? = some _ from rfl))
    obtain ⟨f, hf⟩ := choose_fn (p := fun i (x : Ch) => ∀ j, j < 5 → W.cell? ⟨b, off + i * 5 + j, none⟩ = (recC x)[j]?) x0 len (fun i hi => by
      obtain ⟨x, hcs'⟩ := step i hi
      rw [addr_add] at hcs'
      obtain ⟨b', off', ha', hc⟩ := cells_at hcs' (by omega)
      injection ha' with e1 e2
      subst e1 e2
      exact ⟨x, hc⟩)
    refine ⟨_, len, cap, (List.range len).map f, rfl, ⟨⟨by simp, hlc, fun _ => ⟨b, off, rfl, hbl, fun i x hi j u hj => ?_⟩⟩, hsz⟩⟩
    have hlt : i < len := by have := (List.getElem?_eq_some_iff.1 hi).1; simpa using this
    rw [List.getElem?_map, List.getElem?_range hlt] at hi
    simp only [Option.map_some, Option.some.injEq] at hi
    subst hi
    have hj5 : j < 5 := by have := (List.getElem?_eq_some_iff.1 hj).1; rwa [recC_length] at this
    rw [hf i hlt j hj5]
    exact hj
theorem read_routes (fuel : Nat) (cs : List Value) (y : DataW H × List MemPlace) (h : DataW.trod enc Tryz.prog W base spare held fuel 45 cs = some y) (hw : Light 45 y.1) :
    ∃ (a : RA) (R : Ro), cs = (rarr a R).toList ∧ RR W a R := by
  obtain ⟨ys, n1, rfl, rfl, hcl, hyl, hf⟩ := DataW.trod_struct Tryz.underlying45 h
  rw [cells_routes] at hcl
  obtain ⟨v0, v1, v2, v3, v4, v5, rfl⟩ := six hcl
  obtain ⟨y0, y1, y2, y3, y4, rfl⟩ := five hyl
  have f0 : DataW.trod enc Tryz.prog W base spare held n1 9 [v0] = some y0 := by simpa [cells_string] using hf 0 _ rfl
  have f1 : DataW.trod enc Tryz.prog W base spare held n1 24 [v1, v2] = some y1 := by simpa [cells_string, cells_key] using hf 1 _ rfl
  have f2 : DataW.trod enc Tryz.prog W base spare held n1 3 [v3] = some y2 := by simpa [cells_string, cells_key, cells_int] using hf 2 _ rfl
  have f3 : DataW.trod enc Tryz.prog W base spare held n1 3 [v4] = some y3 := by simpa [cells_string, cells_key, cells_int] using hf 3 _ rfl
  have f4 : DataW.trod enc Tryz.prog W base spare held n1 43 [v5] = some y4 := by simpa [cells_string, cells_key, cells_int, cells_chunks] using hf 4 _ rfl
  simp only [Light, DataW.weights, Tryz.underlying45, List.map, DataW.weightsEach, List.mem_append] at hw
  obtain ⟨sp, e0, rfl, _⟩ := DataW.trod_string Tryz.underlying9 f0
  obtain ⟨ep, e2, _⟩ := DataW.trod_int Tryz.underlying3 f2
  obtain ⟨ve, e3, _⟩ := DataW.trod_int Tryz.underlying3 f3
  simp only [List.cons.injEq, and_true] at e0 e2 e3
  subst e0 e2 e3
  have w1 : ∀ z ∈ y1.1.weights Tryz.prog 24, z ≤ reach0 := fun z hz => hw z (.inr (.inl hz))
  have w4 : Light 43 y4.1 := fun z hz => hw z (.inr (.inr (.inr (.inr (.inl hz)))))
  obtain ⟨ys, n2, rfl, rfl, hcl2, hyl2, hf2⟩ := DataW.trod_struct Tryz.underlying24 f1
  obtain ⟨z0, z1, rfl⟩ := two hyl2
  have g0 : DataW.trod enc Tryz.prog W base spare held n2 22 [v1] = some z0 := by simpa [cells_orders] using hf2 0 _ rfl
  have g1 : DataW.trod enc Tryz.prog W base spare held n2 4 [v2] = some z1 := by simpa [cells_orders, cells_bool] using hf2 1 _ rfl
  simp only [DataW.weights, Tryz.underlying24, List.map, DataW.weightsEach, List.mem_append] at w1
  obtain ⟨KA, kn, kc, ks, rfl, hk⟩ := read_orders n2 g0 (fun z hz => w1 z (.inl hz))
  obtain ⟨ha, e5, rfl⟩ := DataW.trod_bool Tryz.underlying4 g1
  simp only [List.cons.injEq, and_true] at e5
  subst e5
  obtain ⟨CA, cn, cc, cs, rfl, hc⟩ := read_chunks _ f4 w4
  exact ⟨⟨KA, kn, kc, CA, cn, cc⟩, ⟨sp, ks, ha, ep, ve, cs⟩, rfl, Nat.le_trans (hw sp.size (.inl (by simp [DataW.weights]))) le_reach, hk, hc⟩
theorem open_routes {r : Reach} {b0 : Nat} {v : Value} {d : DataW H} {p : List MemPlace} (hv : Value.okWide Tryz.prog W r b0 45 v) (h : DataW.Trod enc Tryz.prog W base spare held 45 v d p) (hw : Light 45 d) :
    ∃ (a : RA) (R : Ro), v = rval a R ∧ RR W a R := by
  obtain ⟨cs, rfl, hsz⟩ := okWide_struct Tryz.underlying45 hv
  obtain ⟨fuel, hf⟩ := h
  obtain ⟨a, R, hc, h1⟩ := read_routes fuel _ _ hf hw
  refine ⟨a, R, ?_, h1⟩
  obtain ⟨l⟩ := cs
  simp only [Value.cells] at hc
  rw [show l = _ from hc]
end
end Go.Proofs.YtblepmmibhphhaaGreatDoor

namespace Go.Proofs.YtblepmmibhphhaaGreatDoor
set_option maxRecDepth 100000
open Go.ChangeShapes Go.WideShapes Go.ChangeAt Go.RowKit Go.Joins Go.Deep

section
variable {H : Type} {enc : TypeId × Value → H} {W : World} {base : Nat} {spare : Nat → Bool} {held : Bool}
end
end Go.Proofs.YtblepmmibhphhaaGreatDoor


/- A list of values that came in, opened. -/
namespace Go.Proofs.YtblepmmibhphhaaGreatDoor
open Go.ChangeShapes Go.WideShapes Go.ChangeAt Go.RowKit Go.Joins Go.Deep

section
variable {H : Type} {enc : TypeId × Value → H} {W : World} {base : Nat} {spare : Nat → Bool} {held : Bool}
set_option maxRecDepth 100000 in
theorem open_values {r : Reach} {b0 : Nat} {v : Value} {d : DataW H} {p : List MemPlace} (hv : Value.okWide Tryz.prog W r b0 25 v) (h : DataW.Trod enc Tryz.prog W base spare held 25 v d p) (hw : Light 25 d) :
    ∃ (A : Option Addr) (n c : Nat) (ps : List PV), v = .slice A n c ∧ SL (fun _ => True) W A n c ps := by
  obtain ⟨a, len, cap, rfl⟩ := okWide_slice Tryz.underlying25 hv
  obtain ⟨fuel, hf⟩ := h
  obtain ⟨LA, ln, lc, l, e, hl1, hl2, hl3, hl4⟩ := read_list fuel (fun n' _ cs y hy hl => read_value n' cs y hy hl) hf hw
  cases e
  have hr : RW W ⟨0, 0, ByteArray.empty, a, len, cap, none, 0, 0⟩ (.mk 0 0 ByteArray.empty l []) := by
    refine RVs.shut ⟨rfl, rfl, rfl, by show (0 : Nat) ≤ reach; decide, hl1, hl2, hl3, fun hp => ?_, rfl, Nat.le_refl _, by show 0 * 96 ≤ reach; decide, fun h => absurd h (by show ¬ 0 < 0; omega)⟩
    obtain ⟨b, off, e, h⟩ := hl4 hp
    exact ⟨b, off, e, Ft.top, h⟩
  obtain ⟨ps, _, hs⟩ := hr.sl
  exact ⟨a, len, cap, ps, rfl, hs⟩
end
end Go.Proofs.YtblepmmibhphhaaGreatDoor


/- An integer that came in, opened. -/
namespace Go.Proofs.YtblepmmibhphhaaGreatDoor
open Go.ChangeShapes Go.WideShapes Go.ChangeAt Go.RowKit Go.Joins Go.Deep
variable {H : Type} {enc : TypeId × Value → H} {W : World} {base : Nat} {r : Reach} {b0 : Nat} {spare : Nat → Bool} {held : Bool}
set_option maxRecDepth 100000 in
theorem open_i64 {v : Value} {d : DataW H} {p : List MemPlace} (hv : Value.okWide Tryz.prog W r b0 3 v) (h : DataW.Trod enc Tryz.prog W base spare held 3 v d p) : ∃ n : Int, v = .int .i64 n ∧ (Lit.int .i64 n).wf = true := by
  obtain ⟨x, rfl, rfl, rfl, wx⟩ := open_int Tryz.underlying3 hv h
  exact ⟨x, rfl, wx⟩
end Go.Proofs.YtblepmmibhphhaaGreatDoor


/- The law RouterOne returns true for every input, and each argument reads behind the call as it read before; the tables of unicode/utf8 that it reads are tied to the program's text. Conditions: none beyond the card. The frame is printed by gen_card.py. -/
namespace Go.Proofs.YtblepmmibhphhaaGreatDoor.routerOne
open Go Go.Shelf Go.ChangeShapes Go.WideShapes Go.ChangeAt Go.RowKit Go.Lib
set_option linter.unusedVariables false

theorem own : ownKnob Tryz.prog.godebug = none := by kernel_rfl
theorem laidOut : laidOutB Tryz.prog = true := by kernel_rfl
theorem accept_eq : Rows.laid_unicode_utf8_acceptRanges = Lib.acceptData := by kernel_rfl
theorem first_eq : Rows.laid_unicode_utf8_first = Lib.firstData := Go.Pinned.utf8First_eq
noncomputable def laidWorld (os : Os) : World :=
  let w0 := World.holding Tryz.prog os ⟨#[], #[], []⟩
  let put (h : Array Obj) (g : Nat) (cs : Array Value) : Array Obj := h.modify g fun
    | .cells _ t frozen => .cells cs t frozen
    | o => o
  let h1 := put w0.heap 0 (Lib.firstTab.map fun z => Value.int .u8 z).toArray
  let h2 := put h1 1 ((List.range 16).flatMap fun i => [Value.int .u8 (Lib.accLo i), Value.int .u8 (Lib.accHi i)]).toArray
  { w0 with heap := h2 }
theorem laid_met (os : Os) (args : Array Value) : laidMet Tryz.prog Rows.routerOneRow.laid ((laidWorld os).forCall (fun _ _ => 0) ⟨#[], args, []⟩).memory :=
  (LaidIn.of_run (l := [("unicode/utf8.acceptRanges", Rows.laid_unicode_utf8_acceptRanges), ("unicode/utf8.first", Rows.laid_unicode_utf8_first)]) [1, 0] 8 (by kernel_rfl) (by kernel_rfl) (by kernel_rfl) (by kernel_rfl)).met

theorem witness_row (os : Os) {H : Type} (enc : TypeId × Value → H) :
    (OpenSpec.ofChange Rows.routerOneSpec).preRow enc Tryz.prog Tryz.f7 Rows.routerOneRow.domain false Rows.routerOneRow.laid ((laidWorld os).forCall (fun _ _ => 0) ⟨#[], #[.agg #[.string ⟨#[]⟩, .slice none 0 0, .bool false, .int .i64 0, .int .i64 0, .slice none 0 0], .slice none 0 0, .string ⟨#[]⟩], []⟩).memory #[.agg #[.string ⟨#[]⟩, .slice none 0 0, .bool false, .int .i64 0, .int .i64 0, .slice none 0 0], .slice none 0 0, .string ⟨#[]⟩] := by
  have hw : (DataW.whole enc Tryz.prog ((laidWorld os).forCall (fun _ _ => 0) ⟨#[], #[.agg #[.string ⟨#[]⟩, .slice none 0 0, .bool false, .int .i64 0, .int .i64 0, .slice none 0 0], .slice none 0 0, .string ⟨#[]⟩], []⟩).memory Tryz.f7.params.toList (OpenSpec.ofChange Rows.routerOneSpec).vars false (#[.agg #[.string ⟨#[]⟩, .slice none 0 0, .bool false, .int .i64 0, .int .i64 0, .slice none 0 0], .slice none 0 0, .string ⟨#[]⟩] : Array Value).toList 8).map (fun x => (x.1, x.2.1)) =
      some ([.agg [.lit (.string []), .agg [.nil, .lit (.bool false)], .lit (.int .i64 0), .lit (.int .i64 0), .nil], .nil, .lit (.string [])], []) := by kernel_rfl
  obtain ⟨⟨x1, x2, x3⟩, hx, hx1⟩ := Option.map_eq_some_iff.1 hw
  simp only [Prod.mk.injEq] at hx1
  obtain ⟨rfl, rfl⟩ := hx1
  exact OpenSpec.preRow_of_cond 8 hx (by kernel_rfl) (fun k hk => by cases hk) (by kernel_rfl) (laid_met os _)

set_option maxRecDepth 100000 in
set_option maxHeartbeats 2000000 in
theorem lifted (os : Os) (started : os.Started) (H : Type) (enc : TypeId × Value → H) (F0 : Stop.Interp) :
    ReturnsInHanded {} Tryz.checked os 7 .any ((OpenSpec.ofChange Rows.routerOneSpec).preRow enc Tryz.prog Tryz.f7 Rows.routerOneRow.domain false Rows.routerOneRow.laid) (((OpenSpec.ofChange Rows.routerOneSpec).at F0).post enc Tryz.prog Tryz.f7 false true false false) := by
  refine returnsInHanded_of_row (C := Tryz.checked) (s := OpenSpec.ofChange Rows.routerOneSpec) own started (by kernel_rfl) Tryz.func7
    (witness_row_atRef (enc := enc) (C := Tryz.checked) false (laidWorld os) #[.agg #[.string ⟨#[]⟩, .slice none 0 0, .bool false, .int .i64 0, .int .i64 0, .slice none 0 0], .slice none 0 0, .string ⟨#[]⟩] rfl (by kernel_rfl) (by kernel_rfl) (by kernel_rfl) (witness_row os enc)) ?_
  intro W base args ds gs before hval0 hW hq1 hq2 hwt hL hq5 hq6
  have hval : ∀ (j : Nat) t v, Tryz.f7.params[j]? = some t → args[j]? = some v → Value.okWide Tryz.prog W .any base t v := hval0
  have hW' := hW
  obtain ⟨p, q, hA0, hV, rfl, hfz, hnd⟩ := hW
  have hA : DataW.TrodAll enc Tryz.prog W 0 (fun _ => true) true Tryz.f7.params.toList args.toList ds p := hA0
  rw [Tryz.params7] at hA hval hwt
  obtain ⟨v0, vs0, d0, ds0, p0, q0, hargs, rfl, rfl, h0, r0⟩ := trodAll_cons hA
  obtain ⟨v1, vs1, d1, ds1, p1, q1, rfl, rfl, rfl, h1, r1⟩ := trodAll_cons r0
  obtain ⟨v2, vs2, d2, ds2, p2, q2, rfl, rfl, rfl, h2, r2⟩ := trodAll_cons r1
  obtain ⟨rfl, rfl, rfl⟩ := trodAll_nil r2
  obtain rfl : args = #[v0, v1, v2] := by cases args; simp_all
  obtain ⟨rfl, rfl⟩ := trodVars_none hV
  obtain ⟨hlt0, hwt0⟩ := light_each hwt
  obtain ⟨hlt1, hwt1⟩ := light_each hwt0
  obtain ⟨hlt2, hwt2⟩ := light_each hwt1
  have trd0 := h0
  have lt0 : ∀ x ∈ p0, x.block < W.heap.size := by obtain ⟨m, hm⟩ := trd0; exact DataW.trod_lt m _ _ _ hm
  obtain ⟨ra0, R0, rfl, o0⟩ := open_routes (hval 0 45 v0 rfl rfl) h0 hlt0
  have trd1 := h1
  have lt1 : ∀ x ∈ p1, x.block < W.heap.size := by obtain ⟨m, hm⟩ := trd1; exact DataW.trod_lt m _ _ _ hm
  obtain ⟨A1, n1, k1, ps1, rfl, o1⟩ := open_values (hval 1 25 v1 rfl rfl) h1 hlt1
  have trd2 := h2
  have lt2 : ∀ x ∈ p2, x.block < W.heap.size := by obtain ⟨m, hm⟩ := trd2; exact DataW.trod_lt m _ _ _ hm
  obtain ⟨s2, rfl, w2⟩ := open_str (hval 2 9 v2 rfl rfl) h2 hlt2
  clear hA0 hval0
  have htab : Tabs W := by
    have r1 := Lib.laidMet.reads hL (.tail _ (.head _))
    have r2 := Lib.laidMet.reads hL (.head _)
    rw [first_eq] at r1
    rw [accept_eq] at r2
    exact utf8Tabs_of_readsT (U8Types.of196 laysValid) ⟨by kernel_rfl, by kernel_rfl, by kernel_rfl, by kernel_rfl, by kernel_rfl, by kernel_rfl, by kernel_rfl⟩ r1 r2
  refine (routerOne_walk R0 ra0 A1 n1 k1 ps1 s2 W htab o0 o1).mono fun e W' ⟨he, bel⟩ => ?_
  subst he
  exact ⟨_, rfl, _, _, _, [], _, [], hW', trodAll_mk1 (shut_bool Tryz.underlying4 _), (trodAll_cons_mk (Below.trod laidOut (by kernel_rfl) (of_decide_eq_true (by kernel_rfl)) trd0 bel lt0) (trodAll_cons_mk (Below.trod laidOut (by kernel_rfl) (of_decide_eq_true (by kernel_rfl)) trd1 bel lt1) (trodAll_cons_mk (Below.trod laidOut (by kernel_rfl) (of_decide_eq_true (by kernel_rfl)) trd2 bel lt2) trodAll_mk0))), rfl, bel.frame _, fun h => by cases h⟩

theorem over : Rows.RouterOneSaid :=
  OpenClaim.holds_of_cond 7 Tryz.f7 rfl rfl rfl rfl rfl rfl rfl ⟨rfl, rfl, rfl, rfl, rfl⟩ rfl rfl rfl rfl rfl (by kernel_rfl) Tryz.func7 (by kernel_rfl)
    (of_decide_eq_true (by kernel_rfl)) (by unfold Func.isWrapper; first | (rw [if_pos (by decide +kernel)]; kernel_rfl) | (rw [if_neg (by decide +kernel)]; exact ⟨rfl, rfl⟩))
    (fun os started H enc _ F0 => by rw [OpenClaim.pre_eq_preRow]; exact lifted os started H enc F0)

theorem proved : Rows.RouterOneCardSaid :=
  Claim7.holds_tied_plain_at .later [] [.data, .pinned] true (true, "d760985c22148e55cd1a8abc7402baa4a725f89cf5395fb4c61866adb12a1757") false
    over (fun _ h => by cases h) (by kernel_rfl) (fun _ h => by cases h) routerOne_row_tie rfl ⟨rfl, rfl⟩ (by kernel_rfl) rfl
    (fun f fn hf hfn => by
      obtain rfl : f = 7 := Option.some.inj ((show Tryz.prog.funcNamed "docstore/docstorelaw50.RouterOne" = some 7 by kernel_rfl).symm.trans hf) |>.symm
      obtain rfl : fn = Tryz.f7 := (Option.some.inj (Tryz.func7.symm.trans hfn)).symm
      exact ⟨by kernel_rfl, fun j t ht => by
        rw [Tryz.params7] at ht
        have h3 : t = 45 ∨ t = 25 ∨ t = 9 := by
          rcases j with _ | j
          · exact .inl (by simpa using ht.symm)
          rcases j with _ | j
          · exact .inr (.inl (by simpa using ht.symm))
          rcases j with _ | j
          · exact .inr (.inr (by simpa using ht.symm))
          · simp at ht
        rcases h3 with rfl | rfl | rfl
        · exact (show Tryz.prog.wantsStandIn 45 = false by kernel_rfl)
        · exact (show Tryz.prog.wantsStandIn 25 = false by kernel_rfl)
        · exact (show Tryz.prog.wantsStandIn 9 = false by kernel_rfl)⟩)
    (by kernel_rfl)
#print axioms proved
end Go.Proofs.YtblepmmibhphhaaGreatDoor.routerOne

