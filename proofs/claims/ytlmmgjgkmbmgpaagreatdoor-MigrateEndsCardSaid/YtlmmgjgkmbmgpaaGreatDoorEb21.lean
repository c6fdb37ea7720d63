/- Parts of the proof, joined: MgLaw1, MgCarI, IvRec, IvBaseA1, ShAwPure, ShKey1. -/
import Derived.Test.YtlmmgjgkmbmgpaaGreatDoorEb20
import Derived.Test.YtlmmgjgkmbmgpaaGreatDoorEb15
import Derived.Test.YtlmmgjgkmbmgpaaGreatDoorEb11
import Derived.Test.YtlmmgjgkmbmgpaaGreatDoorEb2
import Derived.Test.YtlmmgjgkmbmgpaaGreatDoorEb10
import Derived.Test.YtlmmgjgkmbmgpaaGreatDoorEb16
import Derived.Test.YtlmmgjgkmbmgpaaGreatDoorEb12
import Derived.Test.YtlmmgjgkmbmgpaaGreatDoorEb13
import Derived.Test.YtlmmgjgkmbmgpaaGreatDoorEb19
import Derived.Test.YtlmmgjgkmbmgpaaGreatDoorEb6
import Derived.Test.YtlmmgjgkmbmgpaaGreatDoorEb3
import Derived.Test.YtlmmgjgkmbmgpaaGreatDoorEb18
import Derived.Test.YtlmmgjgkmbmgpaaGreatDoorEb4
import Derived.IntWalk
import Derived.Deep.RegionHeld3
import Derived.Laws.OwnMore
/- The law's distinct, carry and sorted. Printed by gen_mglaw.py. -/
namespace Go.Proofs.YtlmmgjgkmbmgpaaGreatDoor
open Go.RowKit
set_option linter.unusedSimpArgs false

theorem dist_snoc {L : List Val} {x : Val} (h : DistV L) (hx : ∀ y ∈ L, cmpV (idV x) (idV y) ≠ 0) : DistV (L ++ [x]) := by
  unfold DistV at h ⊢
  rw [List.pairwise_append]
  refine ⟨h, by simp, fun a ha b hb => ?_⟩
  simp only [List.mem_singleton] at hb
  subst hb
  exact hx a ha

set_option maxRecDepth 100000 in
set_option maxHeartbeats 4000000 in
theorem distinct_any (ps : List PV) (A : Option Addr) (n c : Nat) (w : World) (h : SL (fun _ => True) w A n c ps) (hn : n ≤ 1000) :
    Calls Tryz.prog 8 #[.slice A n c] w fun e w' => ∃ b : Bool, e = .returned (.bool b) ∧ (b = true → DistV (ps.map Prod.snd)) ∧ Below w.heap.size w w' := by
  have H := Lib.hid h
  have HLN : Hid (n = ps.length) := h.sr.ln
  clear h
  go_enter Tryz.func8, Tryz.ntmps8
  go_wp2_with fail
  go_loopw [3, 4] (fun u3 _ wr => ∃ i : Nat, i ≤ n ∧ u3 = .int .i64 i ∧ DistV ((ps.map Prod.snd).take i) ∧ Below w.heap.size w wr) (fun u3 _ _ => n - (intOf u3).toNat)
  case atStart => exact ⟨0, Nat.zero_le _, rfl, List.Pairwise.nil, Below.refl _ _⟩
  case round =>
    obtain ⟨i, hile, rfl, hd, hbel⟩ := hrel
    have HD := Lib.hid hd
    have HB := Lib.hid hbel
    clear hd hbel
    by_cases hlt : i < n
    · obtain ⟨p, hp⟩ : ∃ p, ps[i]? = some p := ⟨_, List.getElem?_eq_getElem (by have := HLN.out; omega)⟩
      obtain ⟨b, off, rfl, _, hu, hr⟩ := (H.out.step HB.out).vat hp
      have HPi := Lib.hid hp
      have HPU := Lib.hid hu
      have HR := Lib.hid hr
      obtain ⟨a0, a1, a2, a3, a4⟩ := hu
      have i0' : (0 : Int) ≤ (i : Int) := by omega
      have i1' : (i : Int) < (n : Int) := by omega
      have HV := Lib.hid (rvalid_any p.2 p.1 wr hr)
      clear hp hr
      go_wp2_with fail
      refine HV.out.mono ?_
      rintro e wb ⟨rfl, hb⟩
      have HBW := Lib.hid (HB.out.step' hb)
      have HPR := Lib.hid (HR.out.step hb)
      have HRW := HPR
      have cl : ∀ {x : Addr} {v : Value}, wr.cell? x = some v → wb.cell? x = some v := fun h => (hb.cell (World.block_lt_of_cell? wr _ h)).trans h
      have HPA : Hid (VAt wb b (off + i * 5) p.1) := ⟨cl a0, cl a1, cl a2, cl a3, cl a4⟩
      clear hb HB HR HV cl a0 a1 a2 a3 a4 HPU
      obtain ⟨a0, a1, a2, a3, a4⟩ := HPA.out
      cases hv : validV p.2
      · go_wp2_with fail
        go_ret
        exact ⟨false, rfl, (by intro h; cases h), HBW.out⟩
      clear hv
      by_cases hdn : p.1.dn = 0
      · have a4' : wb.cell? ⟨b, off + i * 5 + 4, none⟩ = some (.slice p.1.DA 0 p.1.dc) := by rw [← hdn]; exact a4
        clear a4 hdn
        go_wp2_with fail
        go_ret
        exact ⟨false, rfl, (by intro h; cases h), HBW.out⟩
      obtain ⟨fs, hfs, hsd⟩ := HPR.out.sd
      have hfl : p.1.dn = fs.length := hsd.sr.ln
      obtain ⟨f0, hf0⟩ : ∃ f, fs[0]? = some f := ⟨_, List.getElem?_eq_getElem (by omega)⟩
      obtain ⟨bf, of, hA, _, hcf, _, _⟩ := hsd.vat hf0
      obtain ⟨sf, hsf⟩ : ∃ s, f0.2.s = s := ⟨_, rfl⟩
      rw [hsf] at hcf
      have hcf : wb.cell? ⟨bf, of, none⟩ = some (.string sf) := by simpa using hcf
      rw [hA] at a4
      have hdz : ((p.1.dn : Int) == 0) = false := by simp; omega
      have hd0 : (0 : Int) < (p.1.dn : Int) := by omega
      clear hfs hsd hfl hf0 hA hsf hdn
      obtain ⟨nb, hnb⟩ : ∃ nb, (sf.toList == [95, 105, 100]) = nb := ⟨_, rfl⟩
      cases nb
      · go_wp2_with fail
        go_ret
        exact ⟨false, rfl, (by intro h; cases h), HBW.out⟩
      go_wp2_with fail
      clear hnb a0 a1 a2 a3 a4 hcf hdz hd0
      go_loopw [4] (fun u4 wx => ∃ k : Nat, k ≤ i ∧ u4 = .int .i64 k ∧ (∀ (j : Nat) (y : PV), j < k → ps[j]? = some y → cmpV (idV p.2) (idV y.2) ≠ 0) ∧ Below w.heap.size w wx) (fun u4 _ => i - (intOf u4).toNat)
      case atStart => exact ⟨0, Nat.zero_le _, rfl, fun j y hj => absurd hj (by omega), HBW.out⟩
      case round =>
        obtain ⟨k, hkle, rfl, hno, hbx⟩ := hrel
        have HNO := Lib.hid hno
        have HBW := Lib.hid hbx
        clear hno hbx
        by_cases hlk : k < i
        · obtain ⟨q, hq⟩ : ∃ q, ps[k]? = some q := ⟨_, List.getElem?_eq_getElem (by have := HLN.out; omega)⟩
          have HQ := Lib.hid hq
          obtain ⟨b1, o1, e1, _, hu, hr⟩ := (H.out.step HBW.out).vat HPi.out
          cases e1
          obtain ⟨b2, o2, e2, _, hu2, hr2⟩ := (H.out.step HBW.out).vat hq
          cases e2
          have HPA := Lib.hid hu
          have HQA := Lib.hid hu2
          have HPR := Lib.hid hr
          have HQR := Lib.hid hr2
          have k0' : (0 : Int) ≤ (k : Int) := by omega
          have k1' : (k : Int) < (i : Int) := by omega
          have k2' : (k : Int) < (n : Int) := by omega
          clear hq hu hr hu2 hr2
          go_upto_region 9 with fail
          have B : Hid (Below wr.heap.size wr wr.drew) := Lib.hid ((Below.refl wr.heap.size wr).drew)
          have KSS : Hid (∀ w' : World, Below wr.heap.size wr w' → (fun w' => w'.cell? ⟨b, off + i * 5, none⟩ = some (.int .i64 p.1.k) ∧ w'.cell? ⟨b, off + i * 5 + 1, none⟩ = some (.int .i64 p.1.n) ∧ w'.cell? ⟨b, off + i * 5 + 2, none⟩ = some (.string p.1.t) ∧ w'.cell? ⟨b, off + i * 5 + 3, none⟩ = some (.slice p.1.LA p.1.ln p.1.lc) ∧ w'.cell? ⟨b, off + i * 5 + 4, none⟩ = some (.slice p.1.DA p.1.dn p.1.dc) ∧ w'.cell? ⟨b, off + k * 5, none⟩ = some (.int .i64 q.1.k) ∧ w'.cell? ⟨b, off + k * 5 + 1, none⟩ = some (.int .i64 q.1.n) ∧ w'.cell? ⟨b, off + k * 5 + 2, none⟩ = some (.string q.1.t) ∧ w'.cell? ⟨b, off + k * 5 + 3, none⟩ = some (.slice q.1.LA q.1.ln q.1.lc) ∧ w'.cell? ⟨b, off + k * 5 + 4, none⟩ = some (.slice q.1.DA q.1.dn q.1.dc)) w') := Lib.hid fun w' hb => by
            obtain ⟨a0, a1, a2, a3, a4⟩ := HPA.out
            obtain ⟨b0, b1, b2, b3, b4⟩ := HQA.out
            have cl : ∀ {x : Addr} {v : Value}, wr.cell? x = some v → w'.cell? x = some v := fun h => (hb.cell (World.block_lt_of_cell? wr _ h)).trans h
            exact ⟨cl a0, cl a1, cl a2, cl a3, cl a4, cl b0, cl b1, cl b2, cl b3, cl b4⟩
          have SRP : Hid (∀ w' : World, Below wr.heap.size wr w' → RW w' p.1 p.2) := Lib.hid fun w' hb => HPR.out.step hb
          have SRQ : Hid (∀ w' : World, Below wr.heap.size wr w' → RW w' q.1 q.2) := Lib.hid fun w' hb => HQR.out.step hb
          refine wp_region_noPanic ?_
          refine wp_region_held_drew (S := (fun w' => w'.cell? ⟨b, off + i * 5, none⟩ = some (.int .i64 p.1.k) ∧ w'.cell? ⟨b, off + i * 5 + 1, none⟩ = some (.int .i64 p.1.n) ∧ w'.cell? ⟨b, off + i * 5 + 2, none⟩ = some (.string p.1.t) ∧ w'.cell? ⟨b, off + i * 5 + 3, none⟩ = some (.slice p.1.LA p.1.ln p.1.lc) ∧ w'.cell? ⟨b, off + i * 5 + 4, none⟩ = some (.slice p.1.DA p.1.dn p.1.dc) ∧ w'.cell? ⟨b, off + k * 5, none⟩ = some (.int .i64 q.1.k) ∧ w'.cell? ⟨b, off + k * 5 + 1, none⟩ = some (.int .i64 q.1.n) ∧ w'.cell? ⟨b, off + k * 5 + 2, none⟩ = some (.string q.1.t) ∧ w'.cell? ⟨b, off + k * 5 + 3, none⟩ = some (.slice q.1.LA q.1.ln q.1.lc) ∧ w'.cell? ⟨b, off + k * 5 + 4, none⟩ = some (.slice q.1.DA q.1.dn q.1.dc))) (by kernel_rfl) ?_ (fun hHeld => ?_)
          · (try dsimp only); exact KSS.out _ B.out
          generalize wr.drew = v0 at *
          refine wpAnyH_take (i := 0) (v := ?_) (take_at rfl) (by kernel_rfl) (by kernel_rfl) (by kernel_rfl) (fun _ _ _ h => h) (Or.inl ⟨by rfl, ?_⟩) (by assumption) ?_
          rotate_left
          · intro w' hSw; (try dsimp only at hSw); go_simp; (try with_reducible rfl)
          (try simp only [Act.put, List.setIfInBounds_toArray, List.set_cons_zero, List.set_cons_succ])
          refine wpAnyH_take (i := 1) (v := ?_) (take_at rfl) (by kernel_rfl) (by kernel_rfl) (by kernel_rfl) (fun _ _ _ h => h) (Or.inl ⟨by rfl, ?_⟩) (by assumption) ?_
          rotate_left
          · intro w' hSw; (try dsimp only at hSw); go_simp; (try with_reducible rfl)
          (try simp only [Act.put, List.setIfInBounds_toArray, List.set_cons_zero, List.set_cons_succ])
          refine wpAnyH_take (i := 2) (v := ?_) (take_at rfl) (by kernel_rfl) (by kernel_rfl) (by kernel_rfl) (fun _ _ _ h => h) (Or.inl ⟨by rfl, ?_⟩) (by assumption) ?_
          rotate_left
          · intro w' hSw; (try dsimp only at hSw); go_simp; (try with_reducible rfl)
          (try simp only [Act.put, List.setIfInBounds_toArray, List.set_cons_zero, List.set_cons_succ])
          refine wpAnyH_take (i := 3) (v := ?_) (take_at rfl) (by kernel_rfl) (by kernel_rfl) (by kernel_rfl) (fun _ _ _ h => h) (Or.inl ⟨by rfl, ?_⟩) (by assumption) ?_
          rotate_left
          · intro w' hSw; (try dsimp only at hSw); go_simp; (try with_reducible rfl)
          (try simp only [Act.put, List.setIfInBounds_toArray, List.set_cons_zero, List.set_cons_succ])
          refine wpAnyH_take (i := 5) (v := ?_) (take_at rfl) (by kernel_rfl) (by kernel_rfl) (by kernel_rfl) (fun _ _ _ h => h) (Or.inl ⟨by rfl, ?_⟩) (by assumption) ?_
          rotate_left
          · intro w' hSw; (try dsimp only at hSw); go_simp; (try with_reducible rfl)
          (try simp only [Act.put, List.setIfInBounds_toArray, List.set_cons_zero, List.set_cons_succ])
          refine wpAnyH_take (i := 6) (v := ?_) (take_at rfl) (by kernel_rfl) (by kernel_rfl) (by kernel_rfl) (fun _ _ _ h => h) (Or.inl ⟨by rfl, ?_⟩) (by assumption) ?_
          rotate_left
          · intro w' hSw; (try dsimp only at hSw); go_simp; (try with_reducible rfl)
          (try simp only [Act.put, List.setIfInBounds_toArray, List.set_cons_zero, List.set_cons_succ])
          refine wpAnyH_take (i := 7) (v := ?_) (take_at rfl) (by kernel_rfl) (by kernel_rfl) (by kernel_rfl) (fun _ _ _ h => h) (Or.inl ⟨by rfl, ?_⟩) (by assumption) ?_
          rotate_left
          · intro w' hSw; (try dsimp only at hSw); go_simp; (try with_reducible rfl)
          (try simp only [Act.put, List.setIfInBounds_toArray, List.set_cons_zero, List.set_cons_succ])
          refine wpAnyH_take (i := 8) (v := ?_) (take_at rfl) (by kernel_rfl) (by kernel_rfl) (by kernel_rfl) (fun _ _ _ h => h) (Or.inl ⟨by rfl, ?_⟩) (by assumption) ?_
          rotate_left
          · intro w' hSw; (try dsimp only at hSw); go_simp; (try with_reducible rfl)
          (try simp only [Act.put, List.setIfInBounds_toArray, List.set_cons_zero, List.set_cons_succ])
          refine wpAnyH_ready (rs := [4]) (by kernel_rfl) (by simp) ?_
          refine AllReadyH.cons (take_at rfl) (fun K hK => ?_) AllReadyH.nil
          go_simp
          refine (id51_any p.2 _ v0 (SRP.out _ B.out)).mono ?_
          rintro e3 y1 ⟨c1, rfl, hr, hb⟩
          have R1 := Lib.hid hr
          clear hr
          replace B := Lib.hid (B.out.step' hb)
          clear hb
          (try go_wp2_with fail)
          refine hK.out _ _ ?_ (fun hHeld2 => ?_)
          · (try dsimp only); exact KSS.out _ B.out
          clear hK K hHeld
          have hHeld := hHeld2
          clear hHeld2
          (try simp only [Act.put, List.setIfInBounds_toArray, List.set_cons_zero, List.set_cons_succ])
          refine wpAnyH_ready (rs := [9]) (by kernel_rfl) (by simp) ?_
          refine AllReadyH.cons (take_at rfl) (fun K hK => ?_) AllReadyH.nil
          go_simp
          refine (id51_any q.2 _ y1 (SRQ.out _ B.out)).mono ?_
          rintro e3 y2 ⟨c2, rfl, hr, hb⟩
          have R2 := Lib.hid hr
          replace R1 := Lib.hid (R1.out.step hb)
          clear hr
          replace B := Lib.hid (B.out.step' hb)
          clear hb
          (try go_wp2_with fail)
          refine hK.out _ _ ?_ (fun hHeld2 => ?_)
          · (try dsimp only); exact KSS.out _ B.out
          clear hK K hHeld
          have hHeld := hHeld2
          clear hHeld2
          (try simp only [Act.put, List.setIfInBounds_toArray, List.set_cons_zero, List.set_cons_succ])
          refine wpAnyH_ready (rs := [10]) (by kernel_rfl) (by simp) ?_
          refine AllReadyH.cons (take_at rfl) (fun K hK => ?_) AllReadyH.nil
          go_simp
          refine (requal_any _ _ c1 c2 y2 R1.out R2.out).mono ?_
          rintro e3 y3 ⟨rfl, hb⟩
          replace B := Lib.hid (B.out.step' hb)
          clear hb
          (try go_wp2_with fail)
          refine hK.out _ _ ?_ (fun hHeld2 => ?_)
          · (try dsimp only); exact KSS.out _ B.out
          clear hK K hHeld
          have hHeld := hHeld2
          clear hHeld2
          (try simp only [Act.put, List.setIfInBounds_toArray, List.set_cons_zero, List.set_cons_succ])
          refine wpAnyH_done (by kernel_rfl) ?_ _
          refine NoPanic.normal ?_
          obtain ⟨ce, hce⟩ : ∃ ce, cmpV (idV p.2) (idV q.2) = ce := ⟨_, rfl⟩
          rw [hce]
          have HCE := Lib.hid hce
          clear hce
          have HBY := Lib.hid (HBW.out.step' B.out)
          by_cases hz : ce = 0
          · subst hz
            go_wp2_with fail
            go_ret
            exact ⟨false, rfl, (by intro h; cases h), HBY.out⟩
          · have hzb : (ce == 0) = false := by simpa using hz
            have HZ := Lib.hid hz
            clear hz
            go_wp2_with fail
            go_roundw
            case rel => exact ⟨k + 1, by omega, by go_num, fun j y hj hy => by
              rcases Nat.lt_or_ge j k with h | h
              · exact HNO.out j y h hy
              · have : j = k := by omega
                subst this
                rw [HQ.out] at hy
                cases hy
                rw [HCE.out]
                exact HZ.out, HBY.out⟩
            case measure => simp [intOf]; omega
        · have hki : k = i := by omega
          subst hki
          have HDN : Hid (DistV ((ps.map Prod.snd).take (k + 1))) := by
            rw [Hid, take_snoc' (show (ps.map Prod.snd)[k]? = some p.2 by rw [List.getElem?_map, HPi.out]; rfl)]
            refine dist_snoc HD.out fun y hy => ?_
            obtain ⟨j, hj⟩ := List.getElem?_of_mem hy
            rw [List.getElem?_take] at hj
            split at hj
            · rw [List.getElem?_map] at hj
              obtain ⟨z, hz, rfl⟩ := Option.map_eq_some_iff.1 hj
              exact HNO.out j z (by assumption) hz
            · cases hj
          go_wp2_with fail
          go_roundw
          case rel => exact ⟨k + 1, by omega, by go_num, HDN.out, HBW.out⟩
          case measure => simp [intOf]; omega
    · have hik : i = n := by omega
      subst hik
      go_wp2_with fail
      go_ret
      exact ⟨true, rfl, fun _ => by have := HD.out; rwa [List.take_of_length_le (by rw [List.length_map, HLN.out]; exact Nat.le_refl _)] at this, HB.out⟩


theorem alloc_leM {a : Nat} {w : World} (h : a ≤ w.heap.size) (o : Obj) : a ≤ (w.alloc o).heap.size := by simp; omega
/-- a change is carried out -/
noncomputable def carryX (L : List Val) (x : Wx) : List Val := carryV L ⟨x.kd, x.sp, x.key, x.doc, false⟩
theorem carryX_eq (L : List Val) (x : Wx) : carryX L x = L.filter (fun y => !sameId x.key y) ++ (if x.kd = 2 then [x.doc] else []) := rfl
def LstOk (F : Nat → Prop) (L : List Val) (w : World) (e : Ending) (w' : World) : Prop := ∃ (A : Option Addr) (n c : Nat) (qs : List PV), e = .returned (.slice A n c) ∧ qs.map Prod.snd = L ∧ SL (fun b => F b ∨ w.heap.size ≤ b) w' A n c qs ∧ Below w.heap.size w w'

set_option maxRecDepth 100000 in
set_option maxHeartbeats 4000000 in
theorem carry_any {F : Nat → Prop} (ps : List PV) (A : Option Addr) (n c : Nat) (cs : List Value) (x : Wx) (w : World) (h : SL F w A n c ps) (hn : n ≤ 900) (hx : IsW w cs x) (hxd : RV F w x.dc x.doc) :
    Calls Tryz.prog 14 #[.slice A n c, .agg cs.toArray] w (LstOk F (carryX (ps.map Prod.snd) x) w) := by
  obtain ⟨i0, hi0, hy0, hy1, hy2⟩ := info_parts info_value
  have H := Lib.hid h
  have HLN : Hid (n = ps.length) := h.sr.ln
  have HXK := Lib.hid hx.hk
  have HXD := Lib.hid hx.hd
  have HRK := Lib.hid hx.key
  have HRD := Lib.hid hxd
  have HX0 := Lib.hid hx.h0
  clear h hx hxd
  obtain ⟨wa, hwa⟩ : ∃ wa, w.alloc (Obj.cells cs.toArray 68) = wa := ⟨_, rfl⟩
  have BW : Hid (Blk wa w.heap.size 68 cs.toArray) := by rw [← hwa]; exact Blk.new_at rfl
  have BE : Hid (Below w.heap.size w wa) := by rw [← hwa]; exact (Below.refl _ _).alloc (Nat.le_refl _) _
  have HWA1 : Hid (wa.heap.size = w.heap.size + 1) := by rw [← hwa]; simp [Hid]
  have HWA := Lib.hid hwa
  clear hwa
  go_enter Tryz.func14, Tryz.ntmps14
  go_upto_region 1 with fail
  change Code.wp _ _ _ _ (w.alloc (Obj.cells cs.toArray 68))
  rw [HWA.out]
  clear HWA
  go_wp2_with fail
  go_loopw [5, 6] (fun u5 u6 wr => ∃ (i : Nat) (qs : List PV), i ≤ n ∧ u6 = .int .i64 i ∧ qs.map Prod.snd = ((ps.map Prod.snd).take i).filter (fun y => !sameId x.key y) ∧ (∀ q ∈ qs, q ∈ ps) ∧ Blk wr w.heap.size 68 cs.toArray ∧ VsI wa u5 qs wr) (fun _ u6 _ => n - (intOf u6).toNat)
  case atStart => exact ⟨0, [], Nat.zero_le _, rfl, rfl, fun q hq => by simp at hq, BW.out, VsI.start wa⟩
  case round =>
    obtain ⟨i, qs, hile, rfl, hqs, hmem, hbx, hvs⟩ := hrel
    have HQS := Lib.hid hqs
    have HMEM := Lib.hid hmem
    have HBX := Lib.hid hbx
    have VS := Lib.hid hvs
    clear hqs hmem hbx hvs
    by_cases hlt : i < n
    · obtain ⟨p, hp⟩ : ∃ p, ps[i]? = some p := ⟨_, List.getElem?_eq_getElem (by have := HLN.out; omega)⟩
      have HBR := Lib.hid (BE.out.step' VS.out.bel)
      have HPi := Lib.hid hp
      obtain ⟨b, off, rfl, _, hu, hr⟩ := (H.out.step HBR.out).vat hp
      have HPA := Lib.hid hu
      have HPR : Hid (RW wr p.1 p.2) := hr.mono fun _ _ => trivial
      have HXR := Lib.hid (HRK.out.step HBR.out)
      have i0' : (0 : Int) ≤ (i : Int) := by omega
      have i1' : (i : Int) < (n : Int) := by omega
      clear hp hu hr
      go_upto_region 5 with fail
      have B : Hid (Below wr.heap.size wr wr.drew) := Lib.hid ((Below.refl wr.heap.size wr).drew)
      have KSS : Hid (∀ w' : World, Below wr.heap.size wr w' → (fun w' => w'.cell? ⟨b, off + i * 5, none⟩ = some (.int .i64 p.1.k) ∧ w'.cell? ⟨b, off + i * 5 + 1, none⟩ = some (.int .i64 p.1.n) ∧ w'.cell? ⟨b, off + i * 5 + 2, none⟩ = some (.string p.1.t) ∧ w'.cell? ⟨b, off + i * 5 + 3, none⟩ = some (.slice p.1.LA p.1.ln p.1.lc) ∧ w'.cell? ⟨b, off + i * 5 + 4, none⟩ = some (.slice p.1.DA p.1.dn p.1.dc) ∧ w'.cell? ⟨w.heap.size, 2, none⟩ = some (.int .i64 x.kc.k) ∧ w'.cell? ⟨w.heap.size, 3, none⟩ = some (.int .i64 x.kc.n) ∧ w'.cell? ⟨w.heap.size, 4, none⟩ = some (.string x.kc.t) ∧ w'.cell? ⟨w.heap.size, 5, none⟩ = some (.slice x.kc.LA x.kc.ln x.kc.lc) ∧ w'.cell? ⟨w.heap.size, 6, none⟩ = some (.slice x.kc.DA x.kc.dn x.kc.dc)) w') := Lib.hid fun w' hb => by
        obtain ⟨a0, a1, a2, a3, a4⟩ := HPA.out
        have hB := HBX.out.step hb
        have cl : ∀ {x : Addr} {v : Value}, wr.cell? x = some v → w'.cell? x = some v := fun h => (hb.cell (World.block_lt_of_cell? wr _ h)).trans h
        exact ⟨cl a0, cl a1, cl a2, cl a3, cl a4, hB.cellL (HXK.out 0 _ rfl), hB.cellL (HXK.out 1 _ rfl), hB.cellL (HXK.out 2 _ rfl), hB.cellL (HXK.out 3 _ rfl), hB.cellL (HXK.out 4 _ rfl)⟩
      have SRP : Hid (∀ w' : World, Below wr.heap.size wr w' → RW w' p.1 p.2) := Lib.hid fun w' hb => HPR.out.step hb
      have SRQ : Hid (∀ w' : World, Below wr.heap.size wr w' → RW w' x.kc x.key) := Lib.hid fun w' hb => HXR.out.step hb
      refine wp_region_noPanic ?_
      refine wp_region_held_drew (S := (fun w' => w'.cell? ⟨b, off + i * 5, none⟩ = some (.int .i64 p.1.k) ∧ w'.cell? ⟨b, off + i * 5 + 1, none⟩ = some (.int .i64 p.1.n) ∧ w'.cell? ⟨b, off + i * 5 + 2, none⟩ = some (.string p.1.t) ∧ w'.cell? ⟨b, off + i * 5 + 3, none⟩ = some (.slice p.1.LA p.1.ln p.1.lc) ∧ w'.cell? ⟨b, off + i * 5 + 4, none⟩ = some (.slice p.1.DA p.1.dn p.1.dc) ∧ w'.cell? ⟨w.heap.size, 2, none⟩ = some (.int .i64 x.kc.k) ∧ w'.cell? ⟨w.heap.size, 3, none⟩ = some (.int .i64 x.kc.n) ∧ w'.cell? ⟨w.heap.size, 4, none⟩ = some (.string x.kc.t) ∧ w'.cell? ⟨w.heap.size, 5, none⟩ = some (.slice x.kc.LA x.kc.ln x.kc.lc) ∧ w'.cell? ⟨w.heap.size, 6, none⟩ = some (.slice x.kc.DA x.kc.dn x.kc.dc))) (by kernel_rfl) ?_ (fun hHeld => ?_)
      · (try dsimp only); exact KSS.out _ B.out
      generalize wr.drew = v0 at *
      refine wpAnyH_take (i := 0) (v := ?_) (take_at rfl) (by kernel_rfl) (by kernel_rfl) (by kernel_rfl) (fun _ _ _ h => h) (Or.inl ⟨by rfl, ?_⟩) (by assumption) ?_
      rotate_left
      · intro w' hSw; (try dsimp only at hSw); go_simp; (try with_reducible rfl)
      (try simp only [Act.put, List.setIfInBounds_toArray, List.set_cons_zero, List.set_cons_succ])
      refine wpAnyH_take (i := 1) (v := ?_) (take_at rfl) (by kernel_rfl) (by kernel_rfl) (by kernel_rfl) (fun _ _ _ h => h) (Or.inl ⟨by rfl, ?_⟩) (by assumption) ?_
      rotate_left
      · intro w' hSw; (try dsimp only at hSw); go_simp; (try with_reducible rfl)
      (try simp only [Act.put, List.setIfInBounds_toArray, List.set_cons_zero, List.set_cons_succ])
      refine wpAnyH_take (i := 2) (v := ?_) (take_at rfl) (by kernel_rfl) (by kernel_rfl) (by kernel_rfl) (fun _ _ _ h => h) (Or.inl ⟨by rfl, ?_⟩) (by assumption) ?_
      rotate_left
      · intro w' hSw; (try dsimp only at hSw); go_simp; (try with_reducible rfl)
      (try simp only [Act.put, List.setIfInBounds_toArray, List.set_cons_zero, List.set_cons_succ])
      refine wpAnyH_take (i := 3) (v := ?_) (take_at rfl) (by kernel_rfl) (by kernel_rfl) (by kernel_rfl) (fun _ _ _ h => h) (Or.inl ⟨by rfl, ?_⟩) (by assumption) ?_
      rotate_left
      · intro w' hSw; (try dsimp only at hSw); go_simp; (try with_reducible rfl)
      (try simp only [Act.put, List.setIfInBounds_toArray, List.set_cons_zero, List.set_cons_succ])
      refine wpAnyH_take (i := 5) (v := ?_) (take_at rfl) (by kernel_rfl) (by kernel_rfl) (by kernel_rfl) (fun _ _ _ h => h) (Or.inl ⟨by rfl, ?_⟩) (by assumption) ?_
      rotate_left
      · intro w' hSw; (try dsimp only at hSw); go_simp; (try with_reducible rfl)
      (try simp only [Act.put, List.setIfInBounds_toArray, List.set_cons_zero, List.set_cons_succ])
      refine wpAnyH_take (i := 6) (v := ?_) (take_at rfl) (by kernel_rfl) (by kernel_rfl) (by kernel_rfl) (fun _ _ _ h => h) (Or.inl ⟨by rfl, ?_⟩) (by assumption) ?_
      rotate_left
      · intro w' hSw; (try dsimp only at hSw); go_simp; (try with_reducible rfl)
      (try simp only [Act.put, List.setIfInBounds_toArray, List.set_cons_zero, List.set_cons_succ])
      refine wpAnyH_ready (rs := [4]) (by kernel_rfl) (by simp) ?_
      refine AllReadyH.cons (take_at rfl) (fun K hK => ?_) AllReadyH.nil
      go_simp
      refine (id51_any p.2 _ v0 (SRP.out _ B.out)).mono ?_
      rintro e3 y1 ⟨c1, rfl, hr, hb⟩
      have R1 := Lib.hid hr
      clear hr
      replace B := Lib.hid (B.out.step' hb)
      clear hb
      (try go_wp2_with fail)
      refine hK.out _ _ ?_ (fun hHeld2 => ?_)
      · (try dsimp only); exact KSS.out _ B.out
      clear hK K hHeld
      have hHeld := hHeld2
      clear hHeld2
      (try simp only [Act.put, List.setIfInBounds_toArray, List.set_cons_zero, List.set_cons_succ])
      refine wpAnyH_ready (rs := [7]) (by kernel_rfl) (by simp) ?_
      refine AllReadyH.cons (take_at rfl) (fun K hK => ?_) AllReadyH.nil
      go_simp
      refine (requal_any _ _ c1 x.kc y1 R1.out (SRQ.out _ B.out)).mono ?_
      rintro e3 y2 ⟨rfl, hb⟩
      replace B := Lib.hid (B.out.step' hb)
      clear hb
      (try go_wp2_with fail)
      refine hK.out _ _ ?_ (fun hHeld2 => ?_)
      · (try dsimp only); exact KSS.out _ B.out
      clear hK K hHeld
      have hHeld := hHeld2
      clear hHeld2
      (try simp only [Act.put, List.setIfInBounds_toArray, List.set_cons_zero, List.set_cons_succ])
      refine wpAnyH_take (i := 8) (v := ?_) (take_at rfl) (by kernel_rfl) (by kernel_rfl) (by kernel_rfl) (fun _ _ _ h => h) (Or.inl ⟨by rfl, ?_⟩) (by assumption) ?_
      rotate_left
      · intro w' hSw; (try dsimp only at hSw); go_simp; (try with_reducible rfl)
      (try simp only [Act.put, List.setIfInBounds_toArray, List.set_cons_zero, List.set_cons_succ])
      refine wpAnyH_done (by kernel_rfl) ?_ _
      refine NoPanic.normal ?_
      obtain ⟨ce, hce⟩ : ∃ ce, cmpV (idV p.2) x.key = ce := ⟨_, rfl⟩
      rw [hce]
      have HCE := Lib.hid hce
      clear hce
      have VS2 := Lib.hid (VS.out.step B.out)
      have HBX2 := Lib.hid (HBX.out.step B.out)
      have HPA2 : Hid (VAt y2 b (off + i * 5) p.1) := by
        obtain ⟨a0, a1, a2, a3, a4⟩ := HPA.out
        have cl : ∀ {x : Addr} {v : Value}, wr.cell? x = some v → y2.cell? x = some v := fun h => (B.out.cell (World.block_lt_of_cell? wr _ h)).trans h
        exact ⟨cl a0, cl a1, cl a2, cl a3, cl a4⟩
      have HTK : Hid (((ps.map Prod.snd).take (i + 1)).filter (fun y => !sameId x.key y) = qs.map Prod.snd ++ (if ce = 0 then [] else [p.2])) := by
        rw [Hid, take_snoc' (show (ps.map Prod.snd)[i]? = some p.2 by rw [List.getElem?_map, HPi.out]; rfl), List.filter_append, ← HQS.out]
        congr 1
        unfold sameId
        have := HCE.out
        by_cases h0 : ce = 0
        · rw [if_pos h0]; simp [this, h0]
        · rw [if_neg h0]; simp [this, h0]
      by_cases hz : ce = 0
      · have HT2 := Lib.hid (HTK.out.trans (by rw [if_pos hz, List.append_nil]))
        subst hz
        go_wp2_with fail
        go_roundw
        case rel => exact ⟨i + 1, qs, by omega, by go_num, HT2.out.symm, HMEM.out, HBX2.out, VS2.out⟩
        case measure => simp [intOf]; omega
      · have HT2 := Lib.hid (HTK.out.trans (by rw [if_neg hz]))
        have hzb : (ce == 0) = false := by simpa using hz
        rw [hzb]
        have hql : qs.length ≤ 1000 := by
          have h1 := congrArg List.length HQS.out
          have h2 := List.length_filter_le (fun y => !sameId x.key y) ((ps.map Prod.snd).take i)
          rw [List.length_map] at h1
          rw [List.length_take] at h2
          omega
        have HBE2 := Lib.hid (BE.out.step' VS2.out.bel)
        have HRP : Hid (RV (fun b => Value.ownBlock u5 ≠ some b) y2 p.1 p.2) := ((H.out.rv p (List.mem_of_getElem? HPi.out)).lt.step HBE2.out).mono fun b hb => VS2.out.far (.inl (by have := BE.out.size; have := hb.2; omega))
        clear B R1 KSS SRP SRQ hHeld VS HBX HPA HTK
        obtain ⟨a0, a1, a2, a3, a4⟩ := HPA2.out
        have hlo : wa.heap.size ≤ y2.heap.size := VS2.out.bel.size
        have LK := Lib.hid (VS2.out.step ((Below.refl y2.heap.size y2).alloc (Nat.le_refl _) (Obj.cells (VC.arr p.1) 46)))
        have HRZ : Hid (RV (fun b => Value.ownBlock u5 ≠ some b) (y2.alloc (Obj.cells (VC.arr p.1) 46)) p.1 p.2) := RV.alloc (HRP.out) _
        go_wp2_with (at_builtin; refine wpList_append_any _ rfl _ _ 28 rfl wa.heap.size 46 i0 VC.zero.val 5 80 Tryz.underlying28 hi0 hy0 hy1 hy2 rfl (by decide) u5 qs.length (flat recV qs) rfl LK.out.own _ _ 1 _ (recV (p.1, p.2)) rfl ⟨rfl, fun _ => ⟨_, rfl, Nat.lt_succ_self _, news_at _ _ _⟩⟩ (recV_one _) (by unfold maxLen; omega) (by omega) (alloc_leM hlo _) ?_)
        intro v' w6 hown hgr hat
        have HI := Lib.hid (LK.out.add (p := (p.1, p.2)) HRZ.out rfl hown hgr (by rw [size_alloc]; exact hat))
        have HGR := Lib.hid hgr
        clear hown hat hgr LK HRZ a0 a1 a2 a3 a4
        have HBN : Hid (Blk w6 w.heap.size 68 cs.toArray) := Blk.grown (HBX2.out.alloc _) HGR.out (fun e => VS2.out.far (.inl (by have := HWA1.out; omega)) e.symm)
        go_wp2_with fail
        go_roundw
        case rel => exact ⟨i + 1, qs ++ [(p.1, p.2)], by omega, by go_num, by rw [List.map_append]; exact HT2.out.symm, fun q hq => by
          rcases List.mem_append.1 hq with hq | hq
          · exact HMEM.out q hq
          · rw [List.mem_singleton.1 hq]; exact List.mem_of_getElem? HPi.out, HBN.out, HI.out⟩
        case measure => simp [intOf]; omega
    · have hik : i = n := by omega
      subst hik
      have HALL : Hid (qs.map Prod.snd = (ps.map Prod.snd).filter (fun y => !sameId x.key y)) := by
        have := HQS.out
        rwa [List.take_of_length_le (by rw [List.length_map, HLN.out]; exact Nat.le_refl _)] at this
      have hql : qs.length ≤ 900 := by
        have h1 := congrArg List.length HALL.out
        have h2 := List.length_filter_le (fun y => !sameId x.key y) (ps.map Prod.snd)
        rw [List.length_map] at h1
        rw [List.length_map] at h2
        have := HLN.out
        omega
      have s0 : wr.cell? ⟨w.heap.size, 0, none⟩ = some (.int .i64 x.kd) := HBX.out.cellL HX0.out
      have HBR := Lib.hid (BE.out.step' VS.out.bel)
      by_cases hk : x.kd = 2
      · have HF : Hid (carryX (ps.map Prod.snd) x = qs.map Prod.snd ++ [x.doc]) := by rw [Hid, carryX_eq, if_pos hk, HALL.out]
        have d0 : wr.cell? ⟨w.heap.size, 7, none⟩ = some (.int .i64 x.dc.k) := HBX.out.cellL (HXD.out 0 _ rfl)
        have d1 : wr.cell? ⟨w.heap.size, 8, none⟩ = some (.int .i64 x.dc.n) := HBX.out.cellL (HXD.out 1 _ rfl)
        have d2 : wr.cell? ⟨w.heap.size, 9, none⟩ = some (.string x.dc.t) := HBX.out.cellL (HXD.out 2 _ rfl)
        have d3 : wr.cell? ⟨w.heap.size, 10, none⟩ = some (.slice x.dc.LA x.dc.ln x.dc.lc) := HBX.out.cellL (HXD.out 3 _ rfl)
        have d4 : wr.cell? ⟨w.heap.size, 11, none⟩ = some (.slice x.dc.DA x.dc.dn x.dc.dc) := HBX.out.cellL (HXD.out 4 _ rfl)
        rw [hk] at s0
        clear hk
        have HRP : Hid (RV (fun b => Value.ownBlock u5 ≠ some b) wr x.dc x.doc) := (HRD.out.lt.step HBR.out).mono fun b hb => VS.out.far (.inl (by have := BE.out.size; have := hb.2; omega))
        have hlo : wa.heap.size ≤ wr.heap.size := VS.out.bel.size
        have LK := Lib.hid (VS.out.step ((Below.refl wr.heap.size wr).alloc (Nat.le_refl _) (Obj.cells (VC.arr x.dc) 46)))
        have HRZ : Hid (RV (fun b => Value.ownBlock u5 ≠ some b) (wr.alloc (Obj.cells (VC.arr x.dc) 46)) x.dc x.doc) := RV.alloc (HRP.out) _
        go_wp2_with (at_builtin; refine wpList_append_any _ rfl _ _ 28 rfl wa.heap.size 46 i0 VC.zero.val 5 80 Tryz.underlying28 hi0 hy0 hy1 hy2 rfl (by decide) u5 qs.length (flat recV qs) rfl LK.out.own _ _ 1 _ (recV (x.dc, x.doc)) rfl ⟨rfl, fun _ => ⟨_, rfl, Nat.lt_succ_self _, news_at _ _ _⟩⟩ (recV_one _) (by unfold maxLen; omega) (by omega) (alloc_leM hlo _) ?_)
        intro v' w6 hown hgr hat
        have HI := Lib.hid (LK.out.add (p := (x.dc, x.doc)) HRZ.out rfl hown hgr (by rw [size_alloc]; exact hat))
        clear hown hgr hat LK HRZ d0 d1 d2 d3 d4 s0
        obtain ⟨A1, c2, hu, hsl⟩ := SL.of_own (F := fun b => F b ∨ w.heap.size ≤ b) HI.out.own rfl (by simp; unfold reach; omega) (fun b hb => .inr (by have := BE.out.size; omega)) (fun q hq => by
          rcases List.mem_append.1 hq with hq | hq
          · exact ((H.out.rv q (HMEM.out q hq)).step (BE.out.step' HI.out.bel)).mono fun _ hb => .inl hb
          · rw [List.mem_singleton.1 hq]; exact (HRD.out.step (BE.out.step' HI.out.bel)).mono fun _ hb => .inl hb)
        have HSL := Lib.hid hsl
        subst hu
        clear hsl
        go_wp2_with fail
        go_ret
        exact ⟨A1, _, c2, qs ++ [(x.dc, x.doc)], rfl, by rw [HF.out, List.map_append]; rfl, HSL.out, BE.out.step' HI.out.bel⟩
      · have HF : Hid (carryX (ps.map Prod.snd) x = qs.map Prod.snd) := by rw [Hid, carryX_eq, if_neg hk, HALL.out, List.append_nil]
        have hkb : (x.kd == 2) = false := by simpa using hk
        clear hk
        obtain ⟨A1, c2, hu, hsl⟩ := SL.of_own (F := fun b => F b ∨ w.heap.size ≤ b) VS.out.own rfl (by unfold reach; omega) (fun b hb => .inr (by have := BE.out.size; omega)) (fun q hq => ((H.out.rv q (HMEM.out q hq)).step (BE.out.step' VS.out.bel)).mono fun _ hb => .inl hb)
        have HSL := Lib.hid hsl
        subst hu
        clear hsl
        go_wp2_with fail
        go_ret
        exact ⟨A1, qs.length, c2, qs, rfl, HF.out.symm, HSL.out, BE.out.step' VS.out.bel⟩
end Go.Proofs.YtlmmgjgkmbmgpaaGreatDoor



/- The state of the walk of MigrateCarries: what holds between two changes. -/
namespace Go.Proofs.YtlmmgjgkmbmgpaaGreatDoor
open Go.RowKit
set_option linter.unusedSimpArgs false

theorem keyE_partsM {ks : List Od} {ha : Bool} (h : keyE ks ha = 0) : ks.length ≤ 8 ∧ (ha = true → ks.length = 1) := by
  unfold keyE at h
  split at h
  · rename_i h1; exact absurd h h1
  · rename_i h1
    split at h
    · cases h
    · rename_i h2
      have h3 : ordE ks = 0 := by simpa using h1
      unfold ordE at h3
      split at h3
      · cases h3
      · rename_i h4
        have h5 : ¬ ks.length = 0 := fun e => h2 (.inl e)
        exact ⟨by omega, fun hh => by
          have : ¬ 1 < ks.length := fun e => h2 (.inr ⟨hh, e⟩)
          omega⟩
theorem exec_mid {P : Program} {op : Oper} {a : Act} {w : World} {ty : TypeId} {x : Operand} {b o : Nat} {cs : List Value} {d : TypeDesc} (ho : op.op = .load ty x) (hx : a.eval x = .pointer (some ⟨b, o, none⟩)) (hc : w.rangeAt b o cs)
    (hu : P.underlying ty = some d) (hd : d.isRow = true) (hi : (P.info? ty).map (·.size) = some cs.length) : (execOp a.eval op).run P w = .ok (.value (.agg cs.toArray)) w := by
  unfold execOp
  simp only [ho, hx, Instr.loadAt, Instr.sureAddr, Sem.run_bind, Sem.run_pure, Result.andThen_ok, run_loadVar_mid w b o ty cs d hc hu hd hi]
theorem XS.range {w : World} {A : Option Addr} {n c : Nat} {xs : List PX} (h : XS w A n c xs) {i : Nat} {p : PX} (hp : xs[i]? = some p) : ∃ b off, A = some ⟨b, off, none⟩ ∧ b < w.heap.size ∧ w.rangeAt b (off + i * 78) p.1 ∧ IsW w p.1 p.2 := by
  have hi : i < xs.length := (List.getElem?_eq_some_iff.1 hp).1
  obtain ⟨b, off, e, hl, hc⟩ := h.sr.el (by have := h.sr.ln; omega)
  exact ⟨b, off, e, hl, fun j v hj => hc i p hp j v hj, h.is p (List.mem_of_getElem? hp)⟩
theorem WS.range {F : Nat → Prop} {w : World} {A : Option Addr} {n c : Nat} {ps : List PW} (h : WS F w A n c ps) {i : Nat} {p : PW} (hp : ps[i]? = some p) : ∃ b off, A = some ⟨b, off, none⟩ ∧ b < w.heap.size ∧ w.rangeAt b (off + i * 78) (recC78 p.1) ∧ RW1 F w p.1 p.2 := by
  have hi : i < ps.length := (List.getElem?_eq_some_iff.1 hp).1
  obtain ⟨b, off, e, hl, hc⟩ := h.sr.el (by have := h.sr.ln; omega)
  exact ⟨b, off, e, hl, fun j v hj => hc i p hp j v hj, h.el p (List.mem_of_getElem? hp)⟩
/-- a write of the program as a caller's write -/
def wxOf (p : PW) : Wx := ⟨p.1.kd, p.1.sp, p.1.key, p.2.key, p.1.doc, p.2.doc, none, 0, 0⟩
theorem isW_rec {w : World} {p : PW} (h : RW1 (fun _ => True) w p.1 p.2) : IsW w (recC78 p.1) (wxOf p) :=
  ⟨rfl, rfl, rfl, fun j u hj => by
    match j, hj with
    | 0, hj => exact hj
    | 1, hj => exact hj
    | 2, hj => exact hj
    | 3, hj => exact hj
    | 4, hj => exact hj
    | j + 5, hj => simp [wxOf, VC.list] at hj, fun j u hj => by
    match j, hj with
    | 0, hj => exact hj
    | 1, hj => exact hj
    | 2, hj => exact hj
    | 3, hj => exact hj
    | 4, hj => exact hj
    | j + 5, hj => simp [wxOf, VC.list] at hj, rfl, by show p.1.sp.size ≤ reach; rw [h.sp]; exact h.sz, h.key, h.doc⟩
theorem carryX_of {w : World} {p : PW} {F : Nat → Prop} (h : RW1 F w p.1 p.2) (L : List Val) : carryX L (wxOf p) = carryV L p.2 := by
  unfold carryX carryV wxOf
  simp only [h.kd]
theorem carryV_len (L : List Val) (w : Wt) : (carryV L w).length ≤ L.length + 1 := by
  unfold carryV
  rw [List.length_append]
  have := List.length_filter_le (fun x => !sameId w.key x) L
  split <;> simp <;> omega
theorem WsI.row_move {lo : Nat} {w wr : World} {v : Value} {ps : List PW} {g : Nat} {t : TypeId} {a : MA} {M : Mv} (h : WsI lo w v ps wr) (q : Blk wr g t (marr a M)) (h0 : 0 < g) (h1 : w.heap.size ≤ g) (h2 : g < lo) (cs : Array Value) : WsI lo w v ps (wr.setRow g cs) :=
  ⟨own_keep h.own fun b hb => setRow_other _ _ _ _ (by have := own_ge h.own b hb; omega), fun p hp => by
    have := h.rv p hp
    exact ⟨this.kd, this.sp, this.si, this.sz, this.key.row_move q h0 cs, this.doc.row_move q h0 cs⟩, h.lo, below_row h.bel h1 cs⟩
abbrev sarr (a : RA) (R : Ro) (lo : ByteArray) (tt ea : Int) (DA : Option Addr) (dn dc : Nat) (XA : Option Addr) (xn xc : Nat) : Array Value :=
  #[.string R.sp, .slice a.KA a.kn a.kc, .bool R.ha, .int .i64 R.ep, .int .i64 R.ver, .slice a.CA a.cn a.cc, .string lo, .int .i64 tt, .slice DA dn dc, .slice XA xn xc, .int .i64 ea]
/-- the migration between two changes -/
abbrev mvC (M : Mv) (cp ch : List Wt) : Mv := ⟨M.sp, M.lo, M.hi, M.fr, M.tt, 2, cp, ch⟩
end Go.Proofs.YtlmmgjgkmbmgpaaGreatDoor



/- Cuts, spans and intervals in memory. -/
namespace Go.Proofs.YtlmmgjgkmbmgpaaGreatDoor
open Go.RowKit

abbrev PC := PV × Bool
abbrev PS := PC × PC
section
variable {w w' : World} {b off : Nat}
end

section
variable {w w' : World}
variable {A : Option Addr} {n c : Nat}
end
end Go.Proofs.YtlmmgjgkmbmgpaaGreatDoor



/- The contract of interval.intervals. · The contracts of interval.Normal, Has, All and Points. · The contracts of interval.Points, All and Rest. · The contract of interval.Rest. -/
namespace Go.RowKit
theorem Below.kc {w w' : World} (hb : Below w.heap.size w w') {a : Addr} {v : Value} (h : w.cell? a = some v) : w'.cell? a = some v := (hb.cell (World.block_lt_of_cell? w a h)).trans h
end Go.RowKit
namespace Go.Proofs.YtlmmgjgkmbmgpaaGreatDoor
open Go.RowKit

end Go.Proofs.YtlmmgjgkmbmgpaaGreatDoor

namespace Go.Proofs.YtlmmgjgkmbmgpaaGreatDoor
open Go.RowKit

end Go.Proofs.YtlmmgjgkmbmgpaaGreatDoor



/- What the first checks of the layers shardkey and router compute, at closed arguments. -/
namespace Go.Proofs.YtlmmgjgkmbmgpaaGreatDoor
open Go.RowKit

def ka : ByteArray := ⟨#[97]⟩
def vI (n : Int) : Val := .mk 3 n ByteArray.empty [] []
def cI (n : Int) : VC := ⟨3, n, ByteArray.empty, none, 0, 0, none, 0, 0⟩
def ks1 : List Od := [⟨[ka], false⟩]
theorem sound_i (n : Int) : SoundV nameB (vI n) := (SoundV_iff _ _).2 ⟨⟨.inl rfl, .inr (.inr (.inr rfl)), .inr rfl, .inr rfl, .inr (.inr (.inr (.inl rfl)))⟩, by simp [vI, Val.l], by simp [vI, Val.d], by simp [vI, Val.d, NamesP]⟩
theorem sound_null : SoundV nameB nullV := (SoundV_iff _ _).2 ⟨by simp [HeadP, nullV, Val.k, Val.n, Val.t, Val.l, Val.d], by simp [nullV, Val.l], by simp [nullV, Val.d], by simp [nullV, Val.d, NamesP]⟩
theorem valid_null : validV nullV = true := by
  have h1 : nullV.size = 1 := by simp [nullV, Val.size]
  have h2 : nullV.height = 1 := by simp [nullV, Val.height]
  unfold validV
  rw [decide_eq_true (by omega), decide_eq_true (by omega), soundB_true sound_null]
  rfl
theorem allow_valid {x : Val} (h : validV x = true) : allowB x = true := by unfold allowB; rw [h, Bool.or_true]
end Go.Proofs.YtlmmgjgkmbmgpaaGreatDoor



/- The key of the first checks. -/
namespace Go.Proofs.YtlmmgjgkmbmgpaaGreatDoor
open Go.RowKit

theorem st_ka {w : World} {g : Nat} (h : Blk w g 9 #[.string ka]) : ST w (some ⟨g, 0, none⟩) 1 1 [ka] := by
  refine ⟨⟨rfl, Nat.le_refl _, fun _ => ⟨g, 0, rfl, h.lt, fun i a hi j v hj => ?_⟩⟩, by show 1 * 16 ≤ reach; decide, fun s hs => ?_⟩
  · cases i with
    | zero =>
      simp at hi
      subst hi
      cases j with
      | zero => simp [recT] at hj; subst hj; exact h.cell 0
      | succ j => simp [recT] at hj
    | succ i => simp at hi
  · simp at hs; subst hs; show 1 ≤ reach; decide
theorem ks_ka {w : World} {g1 g2 : Nat} (h1 : Blk w g1 9 #[.string ka]) (h2 : Blk w g2 130 #[.slice (some ⟨g1, 0, none⟩) 1 1, .bool false]) : KS w (some ⟨g2, 0, none⟩) 1 1 ks1 := by
  refine ⟨[⟨some ⟨g1, 0, none⟩, 1, 1, false⟩], ⟨⟨rfl, Nat.le_refl _, fun _ => ⟨g2, 0, rfl, h2.lt, fun i a hi j v hj => ?_⟩⟩, by show 1 * 32 ≤ reach; decide, rfl, fun i o q ho hq => ?_⟩⟩
  · cases i with
    | zero =>
      simp at hi
      subst hi
      match j, hj with
      | 0, hj => simp [recO] at hj; subst hj; exact h2.cell 0
      | 1, hj => simp [recO] at hj; subst hj; exact h2.cell 1
      | j + 2, hj => simp [recO] at hj
    | succ i => simp at hi
  · cases i with
    | zero =>
      simp at ho
      simp [ks1] at hq
      subst ho hq
      exact ⟨rfl, st_ka h1⟩
    | succ i => simp at ho
theorem rw_i {F : Nat → Prop} (n : Int) (w : World) : RV F w (cI n) (vI n) := RVs.shut ⟨rfl, rfl, rfl, by show 0 ≤ reach; decide, rfl, Nat.le_refl _, by show 0 * 80 ≤ reach; decide, fun h => absurd h (by show ¬ (0 < 0); omega), rfl, Nat.le_refl _, by show 0 * 96 ≤ reach; decide, fun h => absurd h (by show ¬ (0 < 0); omega)⟩
abbrev cD (g : Nat) : VC := ⟨5, 0, ByteArray.empty, none, 0, 0, some ⟨g, 0, none⟩, 1, 1⟩
abbrev k5 : ByteArray := ⟨#[3, 128, 0, 0, 0, 0, 0, 0, 5]⟩
end Go.Proofs.YtlmmgjgkmbmgpaaGreatDoor


