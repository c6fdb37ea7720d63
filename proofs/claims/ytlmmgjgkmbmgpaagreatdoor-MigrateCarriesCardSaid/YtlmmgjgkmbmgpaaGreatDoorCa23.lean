/- Parts of the proof, joined: MgFits. -/
import Derived.Test.YtlmmgjgkmbmgpaaGreatDoorCa21
import Derived.Test.YtlmmgjgkmbmgpaaGreatDoorCa19
import Derived.Test.YtlmmgjgkmbmgpaaGreatDoorCa12
import Derived.Test.YtlmmgjgkmbmgpaaGreatDoorCa13
import Derived.Deep.RegionHeld3
/- The law's fits. Printed by gen_mgfits.py. -/
namespace Go.Proofs.YtlmmgjgkmbmgpaaGreatDoor
open Go.RowKit
set_option linter.unusedSimpArgs false

/-- a change as plain data -/
def wtX (x : Wx) : Wt := ⟨x.kd, x.sp, x.key, x.doc, false⟩
def FitOk (R : Ro) (M : Mv) (L : List Val) (x : Wx) (w : World) (e : Ending) (w' : World) : Prop := ∃ b : Bool, e = .returned (.bool b) ∧ (b = true → FitW R M.sp M.lo M.hi L (wtX x)) ∧ Below w.heap.size w w'

set_option maxRecDepth 100000 in
set_option maxHeartbeats 8000000 in
theorem fits51_any (M : Mv) (ma : MA) (R : Ro) (a : RA) (ps : List PV) (DA : Option Addr) (n c : Nat) (cs : List Value) (x : Wx) (w : World) (hR : RR w a R) (h8 : R.ks.length ≤ 8) (hk : R.ha = true → R.ks.length = 1) (hlo : M.lo.size ≤ reach) (h : SL (fun _ => True) w DA n c ps) (hn : n ≤ 1000) (hx : IsW w cs x) :
    Calls Tryz.prog 13 #[mval ma M, rval a R, .slice DA n c, .agg cs.toArray] w (FitOk R M (ps.map Prod.snd) x w) := by
  obtain ⟨CA, cn, cc, HA, hn, hc⟩ := ma
  obtain ⟨sp, lo, hi, fr, tt, st, cp, ch⟩ := M
  obtain ⟨kd, xsp, kc, key, dc, doc, WA, wm, wc⟩ := x
  have H := Lib.hid h
  have HR := Lib.hid hR
  have H8 := Lib.hid h8
  have HK1 := Lib.hid hk
  have HLO := Lib.hid hlo
  have HLN : Hid (n = ps.length) := h.sr.ln
  have HXK := Lib.hid hx.hk
  have HXD := Lib.hid hx.hd
  have HX0 := Lib.hid hx.h0
  have HX1 := Lib.hid hx.h1
  have HXW := Lib.hid hx.hw
  have HRK := Lib.hid hx.key
  have HRD := Lib.hid hx.doc
  clear h hx hR h8 hk hlo
  obtain ⟨wa, hwa⟩ : ∃ wa, ((w.alloc (Obj.cells (marr ⟨CA, cn, cc, HA, hn, hc⟩ ⟨sp, lo, hi, fr, tt, st, cp, ch⟩) 37)).alloc (Obj.cells (rarr a R) 27)).alloc (Obj.cells cs.toArray 68) = wa := ⟨_, rfl⟩
  have HBM : Hid (Blk wa w.heap.size 37 (marr ⟨CA, cn, cc, HA, hn, hc⟩ ⟨sp, lo, hi, fr, tt, st, cp, ch⟩)) := by rw [← hwa]; exact ((Blk.new_at rfl).alloc _).alloc _
  have HBR : Hid (Blk wa (w.heap.size + 1) 27 (rarr a R)) := by rw [← hwa]; exact (Blk.new_at (by simp)).alloc _
  have HBW : Hid (Blk wa (w.heap.size + 2) 68 cs.toArray) := by rw [← hwa]; exact Blk.new_at (by simp)
  have BE : Hid (Below w.heap.size w wa) := by rw [← hwa]; exact (((Below.refl _ _).alloc (Nat.le_refl _) _).alloc (by simp) _).alloc (by simp; omega) _
  have HWA := Lib.hid hwa
  clear hwa
  have SRD : Hid (∀ w' : World, Below wa.heap.size wa w' → RW w' dc doc) := Lib.hid fun w' hb => HRD.out.step (BE.out.step' hb)
  have SRK : Hid (∀ w' : World, Below wa.heap.size wa w' → RW w' kc key) := Lib.hid fun w' hb => HRK.out.step (BE.out.step' hb)
  go_enter Tryz.func13, Tryz.ntmps13
  go_upto_region 1 with fail
  change Code.wp _ _ _ _ (((w.alloc (Obj.cells (marr ⟨CA, cn, cc, HA, hn, hc⟩ ⟨sp, lo, hi, fr, tt, st, cp, ch⟩) 37)).alloc (Obj.cells (rarr a R) 27)).alloc (Obj.cells cs.toArray 68))
  rw [HWA.out]
  clear HWA
  have x0 : wa.cell? ⟨w.heap.size + 2, 0, none⟩ = some (.int .i64 kd) := HBW.out.cellL HX0.out
  have x1 : wa.cell? ⟨w.heap.size + 2, 1, none⟩ = some (.string xsp) := HBW.out.cellL HX1.out
  have x75 : wa.cell? ⟨w.heap.size + 2, 75, none⟩ = some (.slice WA wm wc) := HBW.out.cellL HXW.out
  have m0 : wa.cell? ⟨w.heap.size, 0, none⟩ = some (.string sp) := HBM.out.cell 0
  by_cases hk23 : kd = 2 ∨ kd = 3
  rotate_left
  · have k2 : (kd == 2) = false := by simp; omega
    have k3 : (kd == 3) = false := by simp; omega
    have k2' : ¬ kd = 2 := by omega
    have k3' : ¬ kd = 3 := by omega
    clear hk23
    go_wp2_with fail
    go_ret
    exact ⟨false, rfl, (by intro h; cases h), BE.out⟩
  obtain ⟨sb, hsb⟩ : ∃ sb, (xsp.toList == sp.toList) = sb := ⟨_, rfl⟩
  cases sb
  · have hsb' : ¬ xsp.toList = sp.toList := by intro h; rw [h] at hsb; simp at hsb
    rcases hk23 with rfl | rfl
    all_goals
      go_wp2_with fail
      go_ret
      exact ⟨false, rfl, (by intro h; cases h), BE.out⟩
  obtain rfl : sp = xsp := (bytes_eq.1 (by simpa using hsb)).symm
  by_cases hwm : 0 < wm
  · have hw0 : (0 : Int) < (wm : Int) := by omega
    rcases hk23 with rfl | rfl
    all_goals
      go_wp2_with fail
      go_ret
      exact ⟨false, rfl, (by intro h; cases h), BE.out⟩
  obtain rfl : wm = 0 := by omega
  clear hwm
  rcases hk23 with rfl | rfl
  rotate_left
  · go_wp2_with fail
    go_ret
    exact ⟨true, rfl, fun _ => ⟨.inr rfl, rfl, fun h => absurd h (by show ¬ (3 : Int) = 2; decide), fun h => absurd h (by show ¬ (3 : Int) = 2; decide)⟩, BE.out⟩
  go_upto_region 5 with fail
  clear hsb x0 x1 x75 m0
  obtain ⟨vb, hvb⟩ : ∃ vb, validV doc = vb := ⟨_, rfl⟩
  have HV := Lib.hid hvb
  clear hvb
  cases vb
  · have B : Hid (Below wa.heap.size wa wa.drew) := Lib.hid ((Below.refl wa.heap.size wa).drew)
    have KSS : Hid (∀ w' : World, Below wa.heap.size wa w' → (fun w' => w'.cell? ⟨w.heap.size + 2, 2, none⟩ = some (.int .i64 kc.k) ∧ w'.cell? ⟨w.heap.size + 2, 3, none⟩ = some (.int .i64 kc.n) ∧ w'.cell? ⟨w.heap.size + 2, 4, none⟩ = some (.string kc.t) ∧ w'.cell? ⟨w.heap.size + 2, 5, none⟩ = some (.slice kc.LA kc.ln kc.lc) ∧ w'.cell? ⟨w.heap.size + 2, 6, none⟩ = some (.slice kc.DA kc.dn kc.dc) ∧ w'.cell? ⟨w.heap.size + 2, 7, none⟩ = some (.int .i64 dc.k) ∧ w'.cell? ⟨w.heap.size + 2, 8, none⟩ = some (.int .i64 dc.n) ∧ w'.cell? ⟨w.heap.size + 2, 9, none⟩ = some (.string dc.t) ∧ w'.cell? ⟨w.heap.size + 2, 10, none⟩ = some (.slice dc.LA dc.ln dc.lc) ∧ w'.cell? ⟨w.heap.size + 2, 11, none⟩ = some (.slice dc.DA dc.dn dc.dc)) w') := Lib.hid fun w' hb => by
      have hW := HBW.out.step hb
      exact ⟨hW.cellL (HXK.out 0 _ rfl), hW.cellL (HXK.out 1 _ rfl), hW.cellL (HXK.out 2 _ rfl), hW.cellL (HXK.out 3 _ rfl), hW.cellL (HXK.out 4 _ rfl), hW.cellL (HXD.out 0 _ rfl), hW.cellL (HXD.out 1 _ rfl), hW.cellL (HXD.out 2 _ rfl), hW.cellL (HXD.out 3 _ rfl), hW.cellL (HXD.out 4 _ rfl)⟩
    have HVA : Hid (∀ wq, RW wq dc doc → Calls Tryz.prog 34 #[dc.val] wq fun e w' => e = .returned (.bool false) ∧ Below wq.heap.size wq w') := Lib.hid fun wq hq => by have := rvalid_any doc dc wq hq; rw [HV.out] at this; exact this
    refine wp_region_noPanic ?_
    refine wp_region_held_drew (S := (fun w' => w'.cell? ⟨w.heap.size + 2, 2, none⟩ = some (.int .i64 kc.k) ∧ w'.cell? ⟨w.heap.size + 2, 3, none⟩ = some (.int .i64 kc.n) ∧ w'.cell? ⟨w.heap.size + 2, 4, none⟩ = some (.string kc.t) ∧ w'.cell? ⟨w.heap.size + 2, 5, none⟩ = some (.slice kc.LA kc.ln kc.lc) ∧ w'.cell? ⟨w.heap.size + 2, 6, none⟩ = some (.slice kc.DA kc.dn kc.dc) ∧ w'.cell? ⟨w.heap.size + 2, 7, none⟩ = some (.int .i64 dc.k) ∧ w'.cell? ⟨w.heap.size + 2, 8, none⟩ = some (.int .i64 dc.n) ∧ w'.cell? ⟨w.heap.size + 2, 9, none⟩ = some (.string dc.t) ∧ w'.cell? ⟨w.heap.size + 2, 10, none⟩ = some (.slice dc.LA dc.ln dc.lc) ∧ w'.cell? ⟨w.heap.size + 2, 11, none⟩ = some (.slice dc.DA dc.dn dc.dc))) (by kernel_rfl) ?_ (fun hHeld => ?_)
    · (try dsimp only); exact KSS.out _ B.out
    generalize wa.drew = v0 at *
    refine wpAnyH_take (i := 0) (v := ?_) (take_at rfl) (by kernel_rfl) (by kernel_rfl) (by kernel_rfl) (fun _ _ _ h => h) (Or.inl ⟨by rfl, ?_⟩) (by assumption) ?_
    rotate_left
    · intro w' hSw; (try dsimp only at hSw); go_simp; (try with_reducible rfl)
    (try simp only [Act.put, List.setIfInBounds_toArray, List.set_cons_zero, List.set_cons_succ])
    refine wpAnyH_take (i := 1) (v := ?_) (take_at rfl) (by kernel_rfl) (by kernel_rfl) (by kernel_rfl) (fun _ _ _ h => h) (Or.inl ⟨by rfl, ?_⟩) (by assumption) ?_
    rotate_left
    · intro w' hSw; (try dsimp only at hSw); go_simp; (try with_reducible rfl)
    (try simp only [Act.put, List.setIfInBounds_toArray, List.set_cons_zero, List.set_cons_succ])
    refine wpAnyH_ready (rs := [2]) (by kernel_rfl) (by simp) ?_
    refine AllReadyH.cons (take_at rfl) (fun K hK => ?_) AllReadyH.nil
    go_simp
    refine (HVA.out v0 (SRD.out _ B.out)).mono ?_
    rintro e3 y1 ⟨rfl, hb⟩
    replace B := Lib.hid (B.out.step' hb)
    clear hb
    (try go_wp2_with fail)
    refine hK.out _ _ ?_ (fun hHeld2 => ?_)
    · (try dsimp only); exact KSS.out _ B.out
    clear hK K hHeld
    have hHeld := hHeld2
    clear hHeld2
    (try simp only [Act.put, List.setIfInBounds_toArray, List.set_cons_zero, List.set_cons_succ])
    refine wpAnyH_take (i := 3) (v := ?_) (take_at rfl) (by kernel_rfl) (by kernel_rfl) (by kernel_rfl) (fun _ _ _ h => h) (Or.inl ⟨by rfl, ?_⟩) (by assumption) ?_
    rotate_left
    · intro w' hSw; (try dsimp only at hSw); go_simp; (try with_reducible rfl)
    (try simp only [Act.put, List.setIfInBounds_toArray, List.set_cons_zero, List.set_cons_succ])
    refine wpAnyH_take (i := 4) (v := ?_) (take_at rfl) (by kernel_rfl) (by kernel_rfl) (by kernel_rfl) (fun _ _ _ h => h) (Or.inl ⟨by rfl, ?_⟩) (by assumption) ?_
    rotate_left
    · intro w' hSw; (try dsimp only at hSw); go_simp; (try with_reducible rfl)
    (try simp only [Act.put, List.setIfInBounds_toArray, List.set_cons_zero, List.set_cons_succ])
    refine wpAnyH_take (i := 5) (v := undef) (take_at rfl) (by kernel_rfl) (by kernel_rfl) (by kernel_rfl) (fun _ _ _ h => h) (Or.inr ⟨by rfl, rfl⟩) (by assumption) ?_
    (try simp only [Act.put, List.setIfInBounds_toArray, List.set_cons_zero, List.set_cons_succ])
    refine wpAnyH_take (i := 6) (v := undef) (take_at rfl) (by kernel_rfl) (by kernel_rfl) (by kernel_rfl) (fun _ _ _ h => h) (Or.inr ⟨by rfl, rfl⟩) (by assumption) ?_
    (try simp only [Act.put, List.setIfInBounds_toArray, List.set_cons_zero, List.set_cons_succ])
    refine wpAnyH_take (i := 7) (v := undef) (take_at rfl) (by kernel_rfl) (by kernel_rfl) (by kernel_rfl) (fun _ _ _ h => h) (Or.inr ⟨by rfl, rfl⟩) (by assumption) ?_
    (try simp only [Act.put, List.setIfInBounds_toArray, List.set_cons_zero, List.set_cons_succ])
    refine wpAnyH_take (i := 8) (v := undef) (take_at rfl) (by kernel_rfl) (by kernel_rfl) (by kernel_rfl) (fun _ _ _ h => h) (Or.inr ⟨by rfl, rfl⟩) (by assumption) ?_
    (try simp only [Act.put, List.setIfInBounds_toArray, List.set_cons_zero, List.set_cons_succ])
    refine wpAnyH_take (i := 9) (v := undef) (take_at rfl) (by kernel_rfl) (by kernel_rfl) (by kernel_rfl) (fun _ _ _ h => h) (Or.inr ⟨by rfl, rfl⟩) (by assumption) ?_
    (try simp only [Act.put, List.setIfInBounds_toArray, List.set_cons_zero, List.set_cons_succ])
    refine wpAnyH_take (i := 10) (v := undef) (take_at rfl) (by kernel_rfl) (by kernel_rfl) (by kernel_rfl) (fun _ _ _ h => h) (Or.inr ⟨by rfl, rfl⟩) (by assumption) ?_
    (try simp only [Act.put, List.setIfInBounds_toArray, List.set_cons_zero, List.set_cons_succ])
    refine wpAnyH_take (i := 11) (v := undef) (take_at rfl) (by kernel_rfl) (by kernel_rfl) (by kernel_rfl) (fun _ _ _ h => h) (Or.inr ⟨by rfl, rfl⟩) (by assumption) ?_
    (try simp only [Act.put, List.setIfInBounds_toArray, List.set_cons_zero, List.set_cons_succ])
    refine wpAnyH_take (i := 12) (v := ?_) (take_at rfl) (by kernel_rfl) (by kernel_rfl) (by kernel_rfl) (fun _ _ _ h => h) (Or.inl ⟨by rfl, ?_⟩) (by assumption) ?_
    rotate_left
    · intro w' hSw; (try dsimp only at hSw); go_simp; (try with_reducible rfl)
    (try simp only [Act.put, List.setIfInBounds_toArray, List.set_cons_zero, List.set_cons_succ])
    refine wpAnyH_take (i := 13) (v := ?_) (take_at rfl) (by kernel_rfl) (by kernel_rfl) (by kernel_rfl) (fun _ _ _ h => h) (Or.inl ⟨by rfl, ?_⟩) (by assumption) ?_
    rotate_left
    · intro w' hSw; (try dsimp only at hSw); go_simp; (try with_reducible rfl)
    (try simp only [Act.put, List.setIfInBounds_toArray, List.set_cons_zero, List.set_cons_succ])
    refine wpAnyH_take (i := 14) (v := undef) (take_at rfl) (by kernel_rfl) (by kernel_rfl) (by kernel_rfl) (fun _ _ _ h => h) (Or.inr ⟨by rfl, rfl⟩) (by assumption) ?_
    (try simp only [Act.put, List.setIfInBounds_toArray, List.set_cons_zero, List.set_cons_succ])
    refine wpAnyH_take (i := 15) (v := undef) (take_at rfl) (by kernel_rfl) (by kernel_rfl) (by kernel_rfl) (fun _ _ _ h => h) (Or.inr ⟨by rfl, rfl⟩) (by assumption) ?_
    (try simp only [Act.put, List.setIfInBounds_toArray, List.set_cons_zero, List.set_cons_succ])
    refine wpAnyH_take (i := 16) (v := undef) (take_at rfl) (by kernel_rfl) (by kernel_rfl) (by kernel_rfl) (fun _ _ _ h => h) (Or.inr ⟨by rfl, rfl⟩) (by assumption) ?_
    (try simp only [Act.put, List.setIfInBounds_toArray, List.set_cons_zero, List.set_cons_succ])
    refine wpAnyH_take (i := 17) (v := undef) (take_at rfl) (by kernel_rfl) (by kernel_rfl) (by kernel_rfl) (fun _ _ _ h => h) (Or.inr ⟨by rfl, rfl⟩) (by assumption) ?_
    (try simp only [Act.put, List.setIfInBounds_toArray, List.set_cons_zero, List.set_cons_succ])
    refine wpAnyH_take (i := 18) (v := undef) (take_at rfl) (by kernel_rfl) (by kernel_rfl) (by kernel_rfl) (fun _ _ _ h => h) (Or.inr ⟨by rfl, rfl⟩) (by assumption) ?_
    (try simp only [Act.put, List.setIfInBounds_toArray, List.set_cons_zero, List.set_cons_succ])
    refine wpAnyH_take (i := 19) (v := ?_) (take_at rfl) (by kernel_rfl) (by kernel_rfl) (by kernel_rfl) (fun _ _ _ h => h) (Or.inl ⟨by rfl, ?_⟩) (by assumption) ?_
    rotate_left
    · intro w' hSw; (try dsimp only at hSw); go_simp; (try with_reducible rfl)
    (try simp only [Act.put, List.setIfInBounds_toArray, List.set_cons_zero, List.set_cons_succ])
    refine wpAnyH_take (i := 20) (v := ?_) (take_at rfl) (by kernel_rfl) (by kernel_rfl) (by kernel_rfl) (fun _ _ _ h => h) (Or.inl ⟨by rfl, ?_⟩) (by assumption) ?_
    rotate_left
    · intro w' hSw; (try dsimp only at hSw); go_simp; (try with_reducible rfl)
    (try simp only [Act.put, List.setIfInBounds_toArray, List.set_cons_zero, List.set_cons_succ])
    refine wpAnyH_take (i := 21) (v := undef) (take_at rfl) (by kernel_rfl) (by kernel_rfl) (by kernel_rfl) (fun _ _ _ h => h) (Or.inr ⟨by rfl, rfl⟩) (by assumption) ?_
    (try simp only [Act.put, List.setIfInBounds_toArray, List.set_cons_zero, List.set_cons_succ])
    refine wpAnyH_take (i := 22) (v := undef) (take_at rfl) (by kernel_rfl) (by kernel_rfl) (by kernel_rfl) (fun _ _ _ h => h) (Or.inr ⟨by rfl, rfl⟩) (by assumption) ?_
    (try simp only [Act.put, List.setIfInBounds_toArray, List.set_cons_zero, List.set_cons_succ])
    refine wpAnyH_take (i := 23) (v := undef) (take_at rfl) (by kernel_rfl) (by kernel_rfl) (by kernel_rfl) (fun _ _ _ h => h) (Or.inr ⟨by rfl, rfl⟩) (by assumption) ?_
    (try simp only [Act.put, List.setIfInBounds_toArray, List.set_cons_zero, List.set_cons_succ])
    refine wpAnyH_take (i := 24) (v := undef) (take_at rfl) (by kernel_rfl) (by kernel_rfl) (by kernel_rfl) (fun _ _ _ h => h) (Or.inr ⟨by rfl, rfl⟩) (by assumption) ?_
    (try simp only [Act.put, List.setIfInBounds_toArray, List.set_cons_zero, List.set_cons_succ])
    refine wpAnyH_take (i := 25) (v := undef) (take_at rfl) (by kernel_rfl) (by kernel_rfl) (by kernel_rfl) (fun _ _ _ h => h) (Or.inr ⟨by rfl, rfl⟩) (by assumption) ?_
    (try simp only [Act.put, List.setIfInBounds_toArray, List.set_cons_zero, List.set_cons_succ])
    refine wpAnyH_take (i := 26) (v := undef) (take_at rfl) (by kernel_rfl) (by kernel_rfl) (by kernel_rfl) (fun _ _ _ h => h) (Or.inr ⟨by rfl, rfl⟩) (by assumption) ?_
    (try simp only [Act.put, List.setIfInBounds_toArray, List.set_cons_zero, List.set_cons_succ])
    refine wpAnyH_take (i := 27) (v := undef) (take_at rfl) (by kernel_rfl) (by kernel_rfl) (by kernel_rfl) (fun _ _ _ h => h) (Or.inr ⟨by rfl, rfl⟩) (by assumption) ?_
    (try simp only [Act.put, List.setIfInBounds_toArray, List.set_cons_zero, List.set_cons_succ])
    refine wpAnyH_take (i := 28) (v := ?_) (take_at rfl) (by kernel_rfl) (by kernel_rfl) (by kernel_rfl) (fun _ _ _ h => h) (Or.inl ⟨by rfl, ?_⟩) (by assumption) ?_
    rotate_left
    · intro w' hSw; (try dsimp only at hSw); go_simp; (try with_reducible rfl)
    (try simp only [Act.put, List.setIfInBounds_toArray, List.set_cons_zero, List.set_cons_succ])
    refine wpAnyH_done (by kernel_rfl) ?_ _
    refine NoPanic.normal ?_
    go_wp2_with fail
    go_ret
    exact ⟨false, rfl, (by intro h; cases h), BE.out.step' B.out⟩
  obtain ⟨eb, heb⟩ : ∃ eb, (cmpV (idV doc) key == 0) = eb := ⟨_, rfl⟩
  have HE := Lib.hid heb
  clear heb
  cases eb
  · have B : Hid (Below wa.heap.size wa wa.drew) := Lib.hid ((Below.refl wa.heap.size wa).drew)
    have KSS : Hid (∀ w' : World, Below wa.heap.size wa w' → (fun w' => w'.cell? ⟨w.heap.size + 2, 2, none⟩ = some (.int .i64 kc.k) ∧ w'.cell? ⟨w.heap.size + 2, 3, none⟩ = some (.int .i64 kc.n) ∧ w'.cell? ⟨w.heap.size + 2, 4, none⟩ = some (.string kc.t) ∧ w'.cell? ⟨w.heap.size + 2, 5, none⟩ = some (.slice kc.LA kc.ln kc.lc) ∧ w'.cell? ⟨w.heap.size + 2, 6, none⟩ = some (.slice kc.DA kc.dn kc.dc) ∧ w'.cell? ⟨w.heap.size + 2, 7, none⟩ = some (.int .i64 dc.k) ∧ w'.cell? ⟨w.heap.size + 2, 8, none⟩ = some (.int .i64 dc.n) ∧ w'.cell? ⟨w.heap.size + 2, 9, none⟩ = some (.string dc.t) ∧ w'.cell? ⟨w.heap.size + 2, 10, none⟩ = some (.slice dc.LA dc.ln dc.lc) ∧ w'.cell? ⟨w.heap.size + 2, 11, none⟩ = some (.slice dc.DA dc.dn dc.dc)) w') := Lib.hid fun w' hb => by
      have hW := HBW.out.step hb
      exact ⟨hW.cellL (HXK.out 0 _ rfl), hW.cellL (HXK.out 1 _ rfl), hW.cellL (HXK.out 2 _ rfl), hW.cellL (HXK.out 3 _ rfl), hW.cellL (HXK.out 4 _ rfl), hW.cellL (HXD.out 0 _ rfl), hW.cellL (HXD.out 1 _ rfl), hW.cellL (HXD.out 2 _ rfl), hW.cellL (HXD.out 3 _ rfl), hW.cellL (HXD.out 4 _ rfl)⟩
    have HVA : Hid (∀ wq, RW wq dc doc → Calls Tryz.prog 34 #[dc.val] wq fun e w' => e = .returned (.bool true) ∧ Below wq.heap.size wq w') := Lib.hid fun wq hq => by have := rvalid_any doc dc wq hq; rw [HV.out] at this; exact this
    have HEA : Hid (∀ wq c1, RW wq c1 (idV doc) → RW wq kc key → Calls Tryz.prog 35 #[c1.val, kc.val] wq fun e w' => e = .returned (.bool false) ∧ Below wq.heap.size wq w') := Lib.hid fun wq c1 h1 h2 => by have := requal_any _ _ c1 kc wq h1 h2; rw [HE.out] at this; exact this
    refine wp_region_noPanic ?_
    refine wp_region_held_drew (S := (fun w' => w'.cell? ⟨w.heap.size + 2, 2, none⟩ = some (.int .i64 kc.k) ∧ w'.cell? ⟨w.heap.size + 2, 3, none⟩ = some (.int .i64 kc.n) ∧ w'.cell? ⟨w.heap.size + 2, 4, none⟩ = some (.string kc.t) ∧ w'.cell? ⟨w.heap.size + 2, 5, none⟩ = some (.slice kc.LA kc.ln kc.lc) ∧ w'.cell? ⟨w.heap.size + 2, 6, none⟩ = some (.slice kc.DA kc.dn kc.dc) ∧ w'.cell? ⟨w.heap.size + 2, 7, none⟩ = some (.int .i64 dc.k) ∧ w'.cell? ⟨w.heap.size + 2, 8, none⟩ = some (.int .i64 dc.n) ∧ w'.cell? ⟨w.heap.size + 2, 9, none⟩ = some (.string dc.t) ∧ w'.cell? ⟨w.heap.size + 2, 10, none⟩ = some (.slice dc.LA dc.ln dc.lc) ∧ w'.cell? ⟨w.heap.size + 2, 11, none⟩ = some (.slice dc.DA dc.dn dc.dc))) (by kernel_rfl) ?_ (fun hHeld => ?_)
    · (try dsimp only); exact KSS.out _ B.out
    generalize wa.drew = v0 at *
    refine wpAnyH_take (i := 0) (v := ?_) (take_at rfl) (by kernel_rfl) (by kernel_rfl) (by kernel_rfl) (fun _ _ _ h => h) (Or.inl ⟨by rfl, ?_⟩) (by assumption) ?_
    rotate_left
    · intro w' hSw; (try dsimp only at hSw); go_simp; (try with_reducible rfl)
    (try simp only [Act.put, List.setIfInBounds_toArray, List.set_cons_zero, List.set_cons_succ])
    refine wpAnyH_take (i := 1) (v := ?_) (take_at rfl) (by kernel_rfl) (by kernel_rfl) (by kernel_rfl) (fun _ _ _ h => h) (Or.inl ⟨by rfl, ?_⟩) (by assumption) ?_
    rotate_left
    · intro w' hSw; (try dsimp only at hSw); go_simp; (try with_reducible rfl)
    (try simp only [Act.put, List.setIfInBounds_toArray, List.set_cons_zero, List.set_cons_succ])
    refine wpAnyH_ready (rs := [2]) (by kernel_rfl) (by simp) ?_
    refine AllReadyH.cons (take_at rfl) (fun K hK => ?_) AllReadyH.nil
    go_simp
    refine (HVA.out v0 (SRD.out _ B.out)).mono ?_
    rintro e3 y1 ⟨rfl, hb⟩
    replace B := Lib.hid (B.out.step' hb)
    clear hb
    (try go_wp2_with fail)
    refine hK.out _ _ ?_ (fun hHeld2 => ?_)
    · (try dsimp only); exact KSS.out _ B.out
    clear hK K hHeld
    have hHeld := hHeld2
    clear hHeld2
    (try simp only [Act.put, List.setIfInBounds_toArray, List.set_cons_zero, List.set_cons_succ])
    refine wpAnyH_take (i := 3) (v := ?_) (take_at rfl) (by kernel_rfl) (by kernel_rfl) (by kernel_rfl) (fun _ _ _ h => h) (Or.inl ⟨by rfl, ?_⟩) (by assumption) ?_
    rotate_left
    · intro w' hSw; (try dsimp only at hSw); go_simp; (try with_reducible rfl)
    (try simp only [Act.put, List.setIfInBounds_toArray, List.set_cons_zero, List.set_cons_succ])
    refine wpAnyH_take (i := 4) (v := ?_) (take_at rfl) (by kernel_rfl) (by kernel_rfl) (by kernel_rfl) (fun _ _ _ h => h) (Or.inl ⟨by rfl, ?_⟩) (by assumption) ?_
    rotate_left
    · intro w' hSw; (try dsimp only at hSw); go_simp; (try with_reducible rfl)
    (try simp only [Act.put, List.setIfInBounds_toArray, List.set_cons_zero, List.set_cons_succ])
    refine wpAnyH_take (i := 5) (v := ?_) (take_at rfl) (by kernel_rfl) (by kernel_rfl) (by kernel_rfl) (fun _ _ _ h => h) (Or.inl ⟨by rfl, ?_⟩) (by assumption) ?_
    rotate_left
    · intro w' hSw; (try dsimp only at hSw); go_simp; (try with_reducible rfl)
    (try simp only [Act.put, List.setIfInBounds_toArray, List.set_cons_zero, List.set_cons_succ])
    refine wpAnyH_take (i := 6) (v := ?_) (take_at rfl) (by kernel_rfl) (by kernel_rfl) (by kernel_rfl) (fun _ _ _ h => h) (Or.inl ⟨by rfl, ?_⟩) (by assumption) ?_
    rotate_left
    · intro w' hSw; (try dsimp only at hSw); go_simp; (try with_reducible rfl)
    (try simp only [Act.put, List.setIfInBounds_toArray, List.set_cons_zero, List.set_cons_succ])
    refine wpAnyH_take (i := 8) (v := ?_) (take_at rfl) (by kernel_rfl) (by kernel_rfl) (by kernel_rfl) (fun _ _ _ h => h) (Or.inl ⟨by rfl, ?_⟩) (by assumption) ?_
    rotate_left
    · intro w' hSw; (try dsimp only at hSw); go_simp; (try with_reducible rfl)
    (try simp only [Act.put, List.setIfInBounds_toArray, List.set_cons_zero, List.set_cons_succ])
    refine wpAnyH_take (i := 9) (v := ?_) (take_at rfl) (by kernel_rfl) (by kernel_rfl) (by kernel_rfl) (fun _ _ _ h => h) (Or.inl ⟨by rfl, ?_⟩) (by assumption) ?_
    rotate_left
    · intro w' hSw; (try dsimp only at hSw); go_simp; (try with_reducible rfl)
    (try simp only [Act.put, List.setIfInBounds_toArray, List.set_cons_zero, List.set_cons_succ])
    refine wpAnyH_ready (rs := [7]) (by kernel_rfl) (by simp) ?_
    refine AllReadyH.cons (take_at rfl) (fun K hK => ?_) AllReadyH.nil
    go_simp
    refine (id51_any doc _ y1 (SRD.out _ B.out)).mono ?_
    rintro e3 y2 ⟨c1, rfl, hr, hb⟩
    have R1 := Lib.hid hr
    clear hr
    replace B := Lib.hid (B.out.step' hb)
    clear hb
    (try go_wp2_with fail)
    refine hK.out _ _ ?_ (fun hHeld2 => ?_)
    · (try dsimp only); exact KSS.out _ B.out
    clear hK K hHeld
    have hHeld := hHeld2
    clear hHeld2
    (try simp only [Act.put, List.setIfInBounds_toArray, List.set_cons_zero, List.set_cons_succ])
    refine wpAnyH_ready (rs := [10]) (by kernel_rfl) (by simp) ?_
    refine AllReadyH.cons (take_at rfl) (fun K hK => ?_) AllReadyH.nil
    go_simp
    refine (HEA.out y2 c1 R1.out (SRK.out _ B.out)).mono ?_
    rintro e3 y3 ⟨rfl, hb⟩
    replace B := Lib.hid (B.out.step' hb)
    clear hb
    (try go_wp2_with fail)
    refine hK.out _ _ ?_ (fun hHeld2 => ?_)
    · (try dsimp only); exact KSS.out _ B.out
    clear hK K hHeld
    have hHeld := hHeld2
    clear hHeld2
    (try simp only [Act.put, List.setIfInBounds_toArray, List.set_cons_zero, List.set_cons_succ])
    refine wpAnyH_take (i := 11) (v := ?_) (take_at rfl) (by kernel_rfl) (by kernel_rfl) (by kernel_rfl) (fun _ _ _ h => h) (Or.inl ⟨by rfl, ?_⟩) (by assumption) ?_
    rotate_left
    · intro w' hSw; (try dsimp only at hSw); go_simp; (try with_reducible rfl)
    (try simp only [Act.put, List.setIfInBounds_toArray, List.set_cons_zero, List.set_cons_succ])
    refine wpAnyH_take (i := 12) (v := ?_) (take_at rfl) (by kernel_rfl) (by kernel_rfl) (by kernel_rfl) (fun _ _ _ h => h) (Or.inl ⟨by rfl, ?_⟩) (by assumption) ?_
    rotate_left
    · intro w' hSw; (try dsimp only at hSw); go_simp; (try with_reducible rfl)
    (try simp only [Act.put, List.setIfInBounds_toArray, List.set_cons_zero, List.set_cons_succ])
    refine wpAnyH_take (i := 13) (v := ?_) (take_at rfl) (by kernel_rfl) (by kernel_rfl) (by kernel_rfl) (fun _ _ _ h => h) (Or.inl ⟨by rfl, ?_⟩) (by assumption) ?_
    rotate_left
    · intro w' hSw; (try dsimp only at hSw); go_simp; (try with_reducible rfl)
    (try simp only [Act.put, List.setIfInBounds_toArray, List.set_cons_zero, List.set_cons_succ])
    refine wpAnyH_take (i := 14) (v := undef) (take_at rfl) (by kernel_rfl) (by kernel_rfl) (by kernel_rfl) (fun _ _ _ h => h) (Or.inr ⟨by rfl, rfl⟩) (by assumption) ?_
    (try simp only [Act.put, List.setIfInBounds_toArray, List.set_cons_zero, List.set_cons_succ])
    refine wpAnyH_take (i := 15) (v := undef) (take_at rfl) (by kernel_rfl) (by kernel_rfl) (by kernel_rfl) (fun _ _ _ h => h) (Or.inr ⟨by rfl, rfl⟩) (by assumption) ?_
    (try simp only [Act.put, List.setIfInBounds_toArray, List.set_cons_zero, List.set_cons_succ])
    refine wpAnyH_take (i := 16) (v := undef) (take_at rfl) (by kernel_rfl) (by kernel_rfl) (by kernel_rfl) (fun _ _ _ h => h) (Or.inr ⟨by rfl, rfl⟩) (by assumption) ?_
    (try simp only [Act.put, List.setIfInBounds_toArray, List.set_cons_zero, List.set_cons_succ])
    refine wpAnyH_take (i := 17) (v := undef) (take_at rfl) (by kernel_rfl) (by kernel_rfl) (by kernel_rfl) (fun _ _ _ h => h) (Or.inr ⟨by rfl, rfl⟩) (by assumption) ?_
    (try simp only [Act.put, List.setIfInBounds_toArray, List.set_cons_zero, List.set_cons_succ])
    refine wpAnyH_take (i := 18) (v := undef) (take_at rfl) (by kernel_rfl) (by kernel_rfl) (by kernel_rfl) (fun _ _ _ h => h) (Or.inr ⟨by rfl, rfl⟩) (by assumption) ?_
    (try simp only [Act.put, List.setIfInBounds_toArray, List.set_cons_zero, List.set_cons_succ])
    refine wpAnyH_take (i := 19) (v := ?_) (take_at rfl) (by kernel_rfl) (by kernel_rfl) (by kernel_rfl) (fun _ _ _ h => h) (Or.inl ⟨by rfl, ?_⟩) (by assumption) ?_
    rotate_left
    · intro w' hSw; (try dsimp only at hSw); go_simp; (try with_reducible rfl)
    (try simp only [Act.put, List.setIfInBounds_toArray, List.set_cons_zero, List.set_cons_succ])
    refine wpAnyH_take (i := 20) (v := ?_) (take_at rfl) (by kernel_rfl) (by kernel_rfl) (by kernel_rfl) (fun _ _ _ h => h) (Or.inl ⟨by rfl, ?_⟩) (by assumption) ?_
    rotate_left
    · intro w' hSw; (try dsimp only at hSw); go_simp; (try with_reducible rfl)
    (try simp only [Act.put, List.setIfInBounds_toArray, List.set_cons_zero, List.set_cons_succ])
    refine wpAnyH_take (i := 21) (v := undef) (take_at rfl) (by kernel_rfl) (by kernel_rfl) (by kernel_rfl) (fun _ _ _ h => h) (Or.inr ⟨by rfl, rfl⟩) (by assumption) ?_
    (try simp only [Act.put, List.setIfInBounds_toArray, List.set_cons_zero, List.set_cons_succ])
    refine wpAnyH_take (i := 22) (v := undef) (take_at rfl) (by kernel_rfl) (by kernel_rfl) (by kernel_rfl) (fun _ _ _ h => h) (Or.inr ⟨by rfl, rfl⟩) (by assumption) ?_
    (try simp only [Act.put, List.setIfInBounds_toArray, List.set_cons_zero, List.set_cons_succ])
    refine wpAnyH_take (i := 23) (v := undef) (take_at rfl) (by kernel_rfl) (by kernel_rfl) (by kernel_rfl) (fun _ _ _ h => h) (Or.inr ⟨by rfl, rfl⟩) (by assumption) ?_
    (try simp only [Act.put, List.setIfInBounds_toArray, List.set_cons_zero, List.set_cons_succ])
    refine wpAnyH_take (i := 24) (v := undef) (take_at rfl) (by kernel_rfl) (by kernel_rfl) (by kernel_rfl) (fun _ _ _ h => h) (Or.inr ⟨by rfl, rfl⟩) (by assumption) ?_
    (try simp only [Act.put, List.setIfInBounds_toArray, List.set_cons_zero, List.set_cons_succ])
    refine wpAnyH_take (i := 25) (v := undef) (take_at rfl) (by kernel_rfl) (by kernel_rfl) (by kernel_rfl) (fun _ _ _ h => h) (Or.inr ⟨by rfl, rfl⟩) (by assumption) ?_
    (try simp only [Act.put, List.setIfInBounds_toArray, List.set_cons_zero, List.set_cons_succ])
    refine wpAnyH_take (i := 26) (v := undef) (take_at rfl) (by kernel_rfl) (by kernel_rfl) (by kernel_rfl) (fun _ _ _ h => h) (Or.inr ⟨by rfl, rfl⟩) (by assumption) ?_
    (try simp only [Act.put, List.setIfInBounds_toArray, List.set_cons_zero, List.set_cons_succ])
    refine wpAnyH_take (i := 27) (v := undef) (take_at rfl) (by kernel_rfl) (by kernel_rfl) (by kernel_rfl) (fun _ _ _ h => h) (Or.inr ⟨by rfl, rfl⟩) (by assumption) ?_
    (try simp only [Act.put, List.setIfInBounds_toArray, List.set_cons_zero, List.set_cons_succ])
    refine wpAnyH_take (i := 28) (v := ?_) (take_at rfl) (by kernel_rfl) (by kernel_rfl) (by kernel_rfl) (fun _ _ _ h => h) (Or.inl ⟨by rfl, ?_⟩) (by assumption) ?_
    rotate_left
    · intro w' hSw; (try dsimp only at hSw); go_simp; (try with_reducible rfl)
    (try simp only [Act.put, List.setIfInBounds_toArray, List.set_cons_zero, List.set_cons_succ])
    refine wpAnyH_done (by kernel_rfl) ?_ _
    refine NoPanic.normal ?_
    go_wp2_with fail
    go_ret
    exact ⟨false, rfl, (by intro h; cases h), BE.out.step' B.out⟩
  have HE0 : Hid (cmpV (idV doc) key = 0) := by have := HE.out; unfold Hid; simpa using this
  by_cases hdn : dc.dn = 0
  · have HDN := Lib.hid hdn
    clear hdn
    have B : Hid (Below wa.heap.size wa wa.drew) := Lib.hid ((Below.refl wa.heap.size wa).drew)
    have KSS : Hid (∀ w' : World, Below wa.heap.size wa w' → (fun w' => w'.cell? ⟨w.heap.size + 2, 2, none⟩ = some (.int .i64 kc.k) ∧ w'.cell? ⟨w.heap.size + 2, 3, none⟩ = some (.int .i64 kc.n) ∧ w'.cell? ⟨w.heap.size + 2, 4, none⟩ = some (.string kc.t) ∧ w'.cell? ⟨w.heap.size + 2, 5, none⟩ = some (.slice kc.LA kc.ln kc.lc) ∧ w'.cell? ⟨w.heap.size + 2, 6, none⟩ = some (.slice kc.DA kc.dn kc.dc) ∧ w'.cell? ⟨w.heap.size + 2, 7, none⟩ = some (.int .i64 dc.k) ∧ w'.cell? ⟨w.heap.size + 2, 8, none⟩ = some (.int .i64 dc.n) ∧ w'.cell? ⟨w.heap.size + 2, 9, none⟩ = some (.string dc.t) ∧ w'.cell? ⟨w.heap.size + 2, 10, none⟩ = some (.slice dc.LA dc.ln dc.lc) ∧ w'.cell? ⟨w.heap.size + 2, 11, none⟩ = some (.slice dc.DA 0 dc.dc)) w') := Lib.hid fun w' hb => by
      have hW := HBW.out.step hb
      have hZ : w'.cell? ⟨w.heap.size + 2, 11, none⟩ = some (.slice dc.DA 0 dc.dc) := by rw [← HDN.out]; exact hW.cellL (HXD.out 4 _ rfl)
      exact ⟨hW.cellL (HXK.out 0 _ rfl), hW.cellL (HXK.out 1 _ rfl), hW.cellL (HXK.out 2 _ rfl), hW.cellL (HXK.out 3 _ rfl), hW.cellL (HXK.out 4 _ rfl), hW.cellL (HXD.out 0 _ rfl), hW.cellL (HXD.out 1 _ rfl), hW.cellL (HXD.out 2 _ rfl), hW.cellL (HXD.out 3 _ rfl), hZ⟩
    have HVA : Hid (∀ wq, RW wq dc doc → Calls Tryz.prog 34 #[.agg #[.int .i64 dc.k, .int .i64 dc.n, .string dc.t, .slice dc.LA dc.ln dc.lc, .slice dc.DA 0 dc.dc]] wq fun e w' => e = .returned (.bool true) ∧ Below wq.heap.size wq w') := Lib.hid fun wq hq => by have := rvalid_any doc dc wq hq; rw [HV.out] at this; rw [VC.val, HDN.out] at this; exact this
    have HEA : Hid (∀ wq c1, RW wq c1 (idV doc) → RW wq kc key → Calls Tryz.prog 35 #[c1.val, kc.val] wq fun e w' => e = .returned (.bool true) ∧ Below wq.heap.size wq w') := Lib.hid fun wq c1 h1 h2 => by have := requal_any _ _ c1 kc wq h1 h2; rw [HE.out] at this; exact this
    refine wp_region_noPanic ?_
    refine wp_region_held_drew (S := (fun w' => w'.cell? ⟨w.heap.size + 2, 2, none⟩ = some (.int .i64 kc.k) ∧ w'.cell? ⟨w.heap.size + 2, 3, none⟩ = some (.int .i64 kc.n) ∧ w'.cell? ⟨w.heap.size + 2, 4, none⟩ = some (.string kc.t) ∧ w'.cell? ⟨w.heap.size + 2, 5, none⟩ = some (.slice kc.LA kc.ln kc.lc) ∧ w'.cell? ⟨w.heap.size + 2, 6, none⟩ = some (.slice kc.DA kc.dn kc.dc) ∧ w'.cell? ⟨w.heap.size + 2, 7, none⟩ = some (.int .i64 dc.k) ∧ w'.cell? ⟨w.heap.size + 2, 8, none⟩ = some (.int .i64 dc.n) ∧ w'.cell? ⟨w.heap.size + 2, 9, none⟩ = some (.string dc.t) ∧ w'.cell? ⟨w.heap.size + 2, 10, none⟩ = some (.slice dc.LA dc.ln dc.lc) ∧ w'.cell? ⟨w.heap.size + 2, 11, none⟩ = some (.slice dc.DA 0 dc.dc))) (by kernel_rfl) ?_ (fun hHeld => ?_)
    · (try dsimp only); exact KSS.out _ B.out
    generalize wa.drew = v0 at *
    refine wpAnyH_take (i := 0) (v := ?_) (take_at rfl) (by kernel_rfl) (by kernel_rfl) (by kernel_rfl) (fun _ _ _ h => h) (Or.inl ⟨by rfl, ?_⟩) (by assumption) ?_
    rotate_left
    · intro w' hSw; (try dsimp only at hSw); go_simp; (try with_reducible rfl)
    (try simp only [Act.put, List.setIfInBounds_toArray, List.set_cons_zero, List.set_cons_succ])
    refine wpAnyH_take (i := 1) (v := ?_) (take_at rfl) (by kernel_rfl) (by kernel_rfl) (by kernel_rfl) (fun _ _ _ h => h) (Or.inl ⟨by rfl, ?_⟩) (by assumption) ?_
    rotate_left
    · intro w' hSw; (try dsimp only at hSw); go_simp; (try with_reducible rfl)
    (try simp only [Act.put, List.setIfInBounds_toArray, List.set_cons_zero, List.set_cons_succ])
    refine wpAnyH_ready (rs := [2]) (by kernel_rfl) (by simp) ?_
    refine AllReadyH.cons (take_at rfl) (fun K hK => ?_) AllReadyH.nil
    go_simp
    refine (HVA.out v0 (SRD.out _ B.out)).mono ?_
    rintro e3 y1 ⟨rfl, hb⟩
    replace B := Lib.hid (B.out.step' hb)
    clear hb
    (try go_wp2_with fail)
    refine hK.out _ _ ?_ (fun hHeld2 => ?_)
    · (try dsimp only); exact KSS.out _ B.out
    clear hK K hHeld
    have hHeld := hHeld2
    clear hHeld2
    (try simp only [Act.put, List.setIfInBounds_toArray, List.set_cons_zero, List.set_cons_succ])
    refine wpAnyH_take (i := 3) (v := ?_) (take_at rfl) (by kernel_rfl) (by kernel_rfl) (by kernel_rfl) (fun _ _ _ h => h) (Or.inl ⟨by rfl, ?_⟩) (by assumption) ?_
    rotate_left
    · intro w' hSw; (try dsimp only at hSw); go_simp; (try with_reducible rfl)
    (try simp only [Act.put, List.setIfInBounds_toArray, List.set_cons_zero, List.set_cons_succ])
    refine wpAnyH_take (i := 4) (v := ?_) (take_at rfl) (by kernel_rfl) (by kernel_rfl) (by kernel_rfl) (fun _ _ _ h => h) (Or.inl ⟨by rfl, ?_⟩) (by assumption) ?_
    rotate_left
    · intro w' hSw; (try dsimp only at hSw); go_simp; (try with_reducible rfl)
    (try simp only [Act.put, List.setIfInBounds_toArray, List.set_cons_zero, List.set_cons_succ])
    refine wpAnyH_take (i := 5) (v := ?_) (take_at rfl) (by kernel_rfl) (by kernel_rfl) (by kernel_rfl) (fun _ _ _ h => h) (Or.inl ⟨by rfl, ?_⟩) (by assumption) ?_
    rotate_left
    · intro w' hSw; (try dsimp only at hSw); go_simp; (try with_reducible rfl)
    (try simp only [Act.put, List.setIfInBounds_toArray, List.set_cons_zero, List.set_cons_succ])
    refine wpAnyH_take (i := 6) (v := ?_) (take_at rfl) (by kernel_rfl) (by kernel_rfl) (by kernel_rfl) (fun _ _ _ h => h) (Or.inl ⟨by rfl, ?_⟩) (by assumption) ?_
    rotate_left
    · intro w' hSw; (try dsimp only at hSw); go_simp; (try with_reducible rfl)
    (try simp only [Act.put, List.setIfInBounds_toArray, List.set_cons_zero, List.set_cons_succ])
    refine wpAnyH_take (i := 8) (v := ?_) (take_at rfl) (by kernel_rfl) (by kernel_rfl) (by kernel_rfl) (fun _ _ _ h => h) (Or.inl ⟨by rfl, ?_⟩) (by assumption) ?_
    rotate_left
    · intro w' hSw; (try dsimp only at hSw); go_simp; (try with_reducible rfl)
    (try simp only [Act.put, List.setIfInBounds_toArray, List.set_cons_zero, List.set_cons_succ])
    refine wpAnyH_take (i := 9) (v := ?_) (take_at rfl) (by kernel_rfl) (by kernel_rfl) (by kernel_rfl) (fun _ _ _ h => h) (Or.inl ⟨by rfl, ?_⟩) (by assumption) ?_
    rotate_left
    · intro w' hSw; (try dsimp only at hSw); go_simp; (try with_reducible rfl)
    (try simp only [Act.put, List.setIfInBounds_toArray, List.set_cons_zero, List.set_cons_succ])
    refine wpAnyH_ready (rs := [7]) (by kernel_rfl) (by simp) ?_
    refine AllReadyH.cons (take_at rfl) (fun K hK => ?_) AllReadyH.nil
    go_simp
    refine ((by have h9 := id51_any doc dc y1 (SRD.out _ B.out); rw [VC.val, HDN.out] at h9; exact h9 : Calls Tryz.prog 36 #[.agg #[.int .i64 dc.k, .int .i64 dc.n, .string dc.t, .slice dc.LA dc.ln dc.lc, .slice dc.DA 0 dc.dc]] y1 (IdOk (fun _ => True) doc y1))).mono ?_
    rintro e3 y2 ⟨c1, rfl, hr, hb⟩
    have R1 := Lib.hid hr
    clear hr
    replace B := Lib.hid (B.out.step' hb)
    clear hb
    (try go_wp2_with fail)
    refine hK.out _ _ ?_ (fun hHeld2 => ?_)
    · (try dsimp only); exact KSS.out _ B.out
    clear hK K hHeld
    have hHeld := hHeld2
    clear hHeld2
    (try simp only [Act.put, List.setIfInBounds_toArray, List.set_cons_zero, List.set_cons_succ])
    refine wpAnyH_ready (rs := [10]) (by kernel_rfl) (by simp) ?_
    refine AllReadyH.cons (take_at rfl) (fun K hK => ?_) AllReadyH.nil
    go_simp
    refine (HEA.out y2 c1 R1.out (SRK.out _ B.out)).mono ?_
    rintro e3 y3 ⟨rfl, hb⟩
    replace B := Lib.hid (B.out.step' hb)
    clear hb
    (try go_wp2_with fail)
    refine hK.out _ _ ?_ (fun hHeld2 => ?_)
    · (try dsimp only); exact KSS.out _ B.out
    clear hK K hHeld
    have hHeld := hHeld2
    clear hHeld2
    (try simp only [Act.put, List.setIfInBounds_toArray, List.set_cons_zero, List.set_cons_succ])
    refine wpAnyH_take (i := 11) (v := ?_) (take_at rfl) (by kernel_rfl) (by kernel_rfl) (by kernel_rfl) (fun _ _ _ h => h) (Or.inl ⟨by rfl, ?_⟩) (by assumption) ?_
    rotate_left
    · intro w' hSw; (try dsimp only at hSw); go_simp; (try with_reducible rfl)
    (try simp only [Act.put, List.setIfInBounds_toArray, List.set_cons_zero, List.set_cons_succ])
    refine wpAnyH_take (i := 12) (v := ?_) (take_at rfl) (by kernel_rfl) (by kernel_rfl) (by kernel_rfl) (fun _ _ _ h => h) (Or.inl ⟨by rfl, ?_⟩) (by assumption) ?_
    rotate_left
    · intro w' hSw; (try dsimp only at hSw); go_simp; (try with_reducible rfl)
    (try simp only [Act.put, List.setIfInBounds_toArray, List.set_cons_zero, List.set_cons_succ])
    refine wpAnyH_take (i := 13) (v := ?_) (take_at rfl) (by kernel_rfl) (by kernel_rfl) (by kernel_rfl) (fun _ _ _ h => h) (Or.inl ⟨by rfl, ?_⟩) (by assumption) ?_
    rotate_left
    · intro w' hSw; (try dsimp only at hSw); go_simp; (try with_reducible rfl)
    (try simp only [Act.put, List.setIfInBounds_toArray, List.set_cons_zero, List.set_cons_succ])
    refine wpAnyH_take (i := 14) (v := ?_) (take_at rfl) (by kernel_rfl) (by kernel_rfl) (by kernel_rfl) (fun _ _ _ h => h) (Or.inl ⟨by rfl, ?_⟩) (by assumption) ?_
    rotate_left
    · intro w' hSw; (try dsimp only at hSw); go_simp; (try with_reducible rfl)
    (try simp only [Act.put, List.setIfInBounds_toArray, List.set_cons_zero, List.set_cons_succ])
    refine wpAnyH_take (i := 15) (v := ?_) (take_at rfl) (by kernel_rfl) (by kernel_rfl) (by kernel_rfl) (fun _ _ _ h => h) (Or.inl ⟨by rfl, ?_⟩) (by assumption) ?_
    rotate_left
    · intro w' hSw; (try dsimp only at hSw); go_simp; (try with_reducible rfl)
    (try simp only [Act.put, List.setIfInBounds_toArray, List.set_cons_zero, List.set_cons_succ])
    refine wpAnyH_take (i := 16) (v := ?_) (take_at rfl) (by kernel_rfl) (by kernel_rfl) (by kernel_rfl) (fun _ _ _ h => h) (Or.inl ⟨by rfl, ?_⟩) (by assumption) ?_
    rotate_left
    · intro w' hSw; (try dsimp only at hSw); go_simp; (try with_reducible rfl)
    (try simp only [Act.put, List.setIfInBounds_toArray, List.set_cons_zero, List.set_cons_succ])
    refine wpAnyH_take (i := 17) (v := ?_) (take_at rfl) (by kernel_rfl) (by kernel_rfl) (by kernel_rfl) (fun _ _ _ h => h) (Or.inl ⟨by rfl, ?_⟩) (by assumption) ?_
    rotate_left
    · intro w' hSw; (try dsimp only at hSw); go_simp; (try with_reducible rfl)
    (try simp only [Act.put, List.setIfInBounds_toArray, List.set_cons_zero, List.set_cons_succ])
    refine wpAnyH_take (i := 18) (v := ?_) (take_at rfl) (by kernel_rfl) (by kernel_rfl) (by kernel_rfl) (fun _ _ _ h => h) (Or.inl ⟨by rfl, ?_⟩) (by assumption) ?_
    rotate_left
    · intro w' hSw; (try dsimp only at hSw); go_simp; (try with_reducible rfl)
    (try simp only [Act.put, List.setIfInBounds_toArray, List.set_cons_zero, List.set_cons_succ])
    refine wpAnyH_take (i := 19) (v := ?_) (take_at rfl) (by kernel_rfl) (by kernel_rfl) (by kernel_rfl) (fun _ _ _ h => h) (Or.inl ⟨by rfl, ?_⟩) (by assumption) ?_
    rotate_left
    · intro w' hSw; (try dsimp only at hSw); go_simp; (try with_reducible rfl)
    (try simp only [Act.put, List.setIfInBounds_toArray, List.set_cons_zero, List.set_cons_succ])
    refine wpAnyH_take (i := 20) (v := ?_) (take_at rfl) (by kernel_rfl) (by kernel_rfl) (by kernel_rfl) (fun _ _ _ h => h) (Or.inl ⟨by rfl, ?_⟩) (by assumption) ?_
    rotate_left
    · intro w' hSw; (try dsimp only at hSw); go_simp; (try with_reducible rfl)
    (try simp only [Act.put, List.setIfInBounds_toArray, List.set_cons_zero, List.set_cons_succ])
    refine wpAnyH_take (i := 21) (v := undef) (take_at rfl) (by kernel_rfl) (by kernel_rfl) (by kernel_rfl) (fun _ _ _ h => h) (Or.inr ⟨by rfl, rfl⟩) (by assumption) ?_
    (try simp only [Act.put, List.setIfInBounds_toArray, List.set_cons_zero, List.set_cons_succ])
    refine wpAnyH_take (i := 22) (v := undef) (take_at rfl) (by kernel_rfl) (by kernel_rfl) (by kernel_rfl) (fun _ _ _ h => h) (Or.inr ⟨by rfl, rfl⟩) (by assumption) ?_
    (try simp only [Act.put, List.setIfInBounds_toArray, List.set_cons_zero, List.set_cons_succ])
    refine wpAnyH_take (i := 23) (v := undef) (take_at rfl) (by kernel_rfl) (by kernel_rfl) (by kernel_rfl) (fun _ _ _ h => h) (Or.inr ⟨by rfl, rfl⟩) (by assumption) ?_
    (try simp only [Act.put, List.setIfInBounds_toArray, List.set_cons_zero, List.set_cons_succ])
    refine wpAnyH_take (i := 24) (v := undef) (take_at rfl) (by kernel_rfl) (by kernel_rfl) (by kernel_rfl) (fun _ _ _ h => h) (Or.inr ⟨by rfl, rfl⟩) (by assumption) ?_
    (try simp only [Act.put, List.setIfInBounds_toArray, List.set_cons_zero, List.set_cons_succ])
    refine wpAnyH_take (i := 25) (v := undef) (take_at rfl) (by kernel_rfl) (by kernel_rfl) (by kernel_rfl) (fun _ _ _ h => h) (Or.inr ⟨by rfl, rfl⟩) (by assumption) ?_
    (try simp only [Act.put, List.setIfInBounds_toArray, List.set_cons_zero, List.set_cons_succ])
    refine wpAnyH_take (i := 26) (v := undef) (take_at rfl) (by kernel_rfl) (by kernel_rfl) (by kernel_rfl) (fun _ _ _ h => h) (Or.inr ⟨by rfl, rfl⟩) (by assumption) ?_
    (try simp only [Act.put, List.setIfInBounds_toArray, List.set_cons_zero, List.set_cons_succ])
    refine wpAnyH_take (i := 27) (v := undef) (take_at rfl) (by kernel_rfl) (by kernel_rfl) (by kernel_rfl) (fun _ _ _ h => h) (Or.inr ⟨by rfl, rfl⟩) (by assumption) ?_
    (try simp only [Act.put, List.setIfInBounds_toArray, List.set_cons_zero, List.set_cons_succ])
    refine wpAnyH_take (i := 28) (v := ?_) (take_at rfl) (by kernel_rfl) (by kernel_rfl) (by kernel_rfl) (fun _ _ _ h => h) (Or.inl ⟨by rfl, ?_⟩) (by assumption) ?_
    rotate_left
    · intro w' hSw; (try dsimp only at hSw); go_simp; (try with_reducible rfl)
    (try simp only [Act.put, List.setIfInBounds_toArray, List.set_cons_zero, List.set_cons_succ])
    refine wpAnyH_done (by kernel_rfl) ?_ _
    refine NoPanic.normal ?_
    go_wp2_with fail
    go_ret
    exact ⟨false, rfl, (by intro h; cases h), BE.out.step' B.out⟩
  obtain ⟨fs, hfs, hsd⟩ := (SRD.out _ (Below.refl wa.heap.size wa)).sd
  have hfl : dc.dn = fs.length := hsd.sr.ln
  obtain ⟨f0, hf0⟩ : ∃ f, fs[0]? = some f := ⟨_, List.getElem?_eq_getElem (by omega)⟩
  obtain ⟨bf, of, hA, _, hcf, _, _⟩ := hsd.vat hf0
  obtain ⟨sf, hsf⟩ : ∃ s, f0.2.s = s := ⟨_, rfl⟩
  rw [hsf] at hcf
  have HCF : Hid (wa.cell? ⟨bf, of, none⟩ = some (.string sf)) := Lib.hid (by simpa using hcf)
  have HDA := Lib.hid hA
  have hdz : ((dc.dn : Int) == 0) = false := by simp; omega
  have hd0 : (0 : Int) < (dc.dn : Int) := by omega
  have hdn0 : 0 < dc.dn := by omega
  clear hfs hsd hfl hf0 hA hsf hdn hcf
  obtain ⟨nb, hnb⟩ : ∃ nb, (sf.toList == [95, 105, 100]) = nb := ⟨_, rfl⟩
  have B : Hid (Below wa.heap.size wa wa.drew) := Lib.hid ((Below.refl wa.heap.size wa).drew)
  have KSS : Hid (∀ w' : World, Below wa.heap.size wa w' → (fun w' => w'.cell? ⟨w.heap.size + 2, 2, none⟩ = some (.int .i64 kc.k) ∧ w'.cell? ⟨w.heap.size + 2, 3, none⟩ = some (.int .i64 kc.n) ∧ w'.cell? ⟨w.heap.size + 2, 4, none⟩ = some (.string kc.t) ∧ w'.cell? ⟨w.heap.size + 2, 5, none⟩ = some (.slice kc.LA kc.ln kc.lc) ∧ w'.cell? ⟨w.heap.size + 2, 6, none⟩ = some (.slice kc.DA kc.dn kc.dc) ∧ w'.cell? ⟨w.heap.size + 2, 7, none⟩ = some (.int .i64 dc.k) ∧ w'.cell? ⟨w.heap.size + 2, 8, none⟩ = some (.int .i64 dc.n) ∧ w'.cell? ⟨w.heap.size + 2, 9, none⟩ = some (.string dc.t) ∧ w'.cell? ⟨w.heap.size + 2, 10, none⟩ = some (.slice dc.LA dc.ln dc.lc) ∧ w'.cell? ⟨w.heap.size + 2, 11, none⟩ = some (.slice (some ⟨bf, of, none⟩) dc.dn dc.dc) ∧ w'.cell? ⟨bf, of, none⟩ = some (.string sf)) w') := Lib.hid fun w' hb => by
    have hW := HBW.out.step hb
    have hZ : w'.cell? ⟨w.heap.size + 2, 11, none⟩ = some (.slice (some ⟨bf, of, none⟩) dc.dn dc.dc) := by rw [← HDA.out]; exact hW.cellL (HXD.out 4 _ rfl)
    have hF := (hb.cell (World.block_lt_of_cell? wa _ HCF.out)).trans HCF.out
    exact ⟨hW.cellL (HXK.out 0 _ rfl), hW.cellL (HXK.out 1 _ rfl), hW.cellL (HXK.out 2 _ rfl), hW.cellL (HXK.out 3 _ rfl), hW.cellL (HXK.out 4 _ rfl), hW.cellL (HXD.out 0 _ rfl), hW.cellL (HXD.out 1 _ rfl), hW.cellL (HXD.out 2 _ rfl), hW.cellL (HXD.out 3 _ rfl), hZ, hF⟩
  have HVA : Hid (∀ wq, RW wq dc doc → Calls Tryz.prog 34 #[.agg #[.int .i64 dc.k, .int .i64 dc.n, .string dc.t, .slice dc.LA dc.ln dc.lc, .slice (some ⟨bf, of, none⟩) dc.dn dc.dc]] wq fun e w' => e = .returned (.bool true) ∧ Below wq.heap.size wq w') := Lib.hid fun wq hq => by have := rvalid_any doc dc wq hq; rw [HV.out] at this; rw [VC.val, HDA.out] at this; exact this
  have HEA : Hid (∀ wq c1, RW wq c1 (idV doc) → RW wq kc key → Calls Tryz.prog 35 #[c1.val, kc.val] wq fun e w' => e = .returned (.bool true) ∧ Below wq.heap.size wq w') := Lib.hid fun wq c1 h1 h2 => by have := requal_any _ _ c1 kc wq h1 h2; rw [HE.out] at this; exact this
  refine wp_region_noPanic ?_
  refine wp_region_held_drew (S := (fun w' => w'.cell? ⟨w.heap.size + 2, 2, none⟩ = some (.int .i64 kc.k) ∧ w'.cell? ⟨w.heap.size + 2, 3, none⟩ = some (.int .i64 kc.n) ∧ w'.cell? ⟨w.heap.size + 2, 4, none⟩ = some (.string kc.t) ∧ w'.cell? ⟨w.heap.size + 2, 5, none⟩ = some (.slice kc.LA kc.ln kc.lc) ∧ w'.cell? ⟨w.heap.size + 2, 6, none⟩ = some (.slice kc.DA kc.dn kc.dc) ∧ w'.cell? ⟨w.heap.size + 2, 7, none⟩ = some (.int .i64 dc.k) ∧ w'.cell? ⟨w.heap.size + 2, 8, none⟩ = some (.int .i64 dc.n) ∧ w'.cell? ⟨w.heap.size + 2, 9, none⟩ = some (.string dc.t) ∧ w'.cell? ⟨w.heap.size + 2, 10, none⟩ = some (.slice dc.LA dc.ln dc.lc) ∧ w'.cell? ⟨w.heap.size + 2, 11, none⟩ = some (.slice (some ⟨bf, of, none⟩) dc.dn dc.dc) ∧ w'.cell? ⟨bf, of, none⟩ = some (.string sf))) (by kernel_rfl) ?_ (fun hHeld => ?_)
  · (try dsimp only); exact KSS.out _ B.out
  generalize wa.drew = v0 at *
  refine wpAnyH_take (i := 0) (v := ?_) (take_at rfl) (by kernel_rfl) (by kernel_rfl) (by kernel_rfl) (fun _ _ _ h => h) (Or.inl ⟨by rfl, ?_⟩) (by assumption) ?_
  rotate_left
  · intro w' hSw; (try dsimp only at hSw); go_simp; (try with_reducible rfl)
  (try simp only [Act.put, List.setIfInBounds_toArray, List.set_cons_zero, List.set_cons_succ])
  refine wpAnyH_take (i := 1) (v := ?_) (take_at rfl) (by kernel_rfl) (by kernel_rfl) (by kernel_rfl) (fun _ _ _ h => h) (Or.inl ⟨by rfl, ?_⟩) (by assumption) ?_
  rotate_left
  · intro w' hSw; (try dsimp only at hSw); go_simp; (try with_reducible rfl)
  (try simp only [Act.put, List.setIfInBounds_toArray, List.set_cons_zero, List.set_cons_succ])
  refine wpAnyH_ready (rs := [2]) (by kernel_rfl) (by simp) ?_
  refine AllReadyH.cons (take_at rfl) (fun K hK => ?_) AllReadyH.nil
  go_simp
  refine (HVA.out v0 (SRD.out _ B.out)).mono ?_
  rintro e3 y1 ⟨rfl, hb⟩
  replace B := Lib.hid (B.out.step' hb)
  clear hb
  (try go_wp2_with fail)
  refine hK.out _ _ ?_ (fun hHeld2 => ?_)
  · (try dsimp only); exact KSS.out _ B.out
  clear hK K hHeld
  have hHeld := hHeld2
  clear hHeld2
  (try simp only [Act.put, List.setIfInBounds_toArray, List.set_cons_zero, List.set_cons_succ])
  refine wpAnyH_take (i := 3) (v := ?_) (take_at rfl) (by kernel_rfl) (by kernel_rfl) (by kernel_rfl) (fun _ _ _ h => h) (Or.inl ⟨by rfl, ?_⟩) (by assumption) ?_
  rotate_left
  · intro w' hSw; (try dsimp only at hSw); go_simp; (try with_reducible rfl)
  (try simp only [Act.put, List.setIfInBounds_toArray, List.set_cons_zero, List.set_cons_succ])
  refine wpAnyH_take (i := 4) (v := ?_) (take_at rfl) (by kernel_rfl) (by kernel_rfl) (by kernel_rfl) (fun _ _ _ h => h) (Or.inl ⟨by rfl, ?_⟩) (by assumption) ?_
  rotate_left
  · intro w' hSw; (try dsimp only at hSw); go_simp; (try with_reducible rfl)
  (try simp only [Act.put, List.setIfInBounds_toArray, List.set_cons_zero, List.set_cons_succ])
  refine wpAnyH_take (i := 5) (v := ?_) (take_at rfl) (by kernel_rfl) (by kernel_rfl) (by kernel_rfl) (fun _ _ _ h => h) (Or.inl ⟨by rfl, ?_⟩) (by assumption) ?_
  rotate_left
  · intro w' hSw; (try dsimp only at hSw); go_simp; (try with_reducible rfl)
  (try simp only [Act.put, List.setIfInBounds_toArray, List.set_cons_zero, List.set_cons_succ])
  refine wpAnyH_take (i := 6) (v := ?_) (take_at rfl) (by kernel_rfl) (by kernel_rfl) (by kernel_rfl) (fun _ _ _ h => h) (Or.inl ⟨by rfl, ?_⟩) (by assumption) ?_
  rotate_left
  · intro w' hSw; (try dsimp only at hSw); go_simp; (try with_reducible rfl)
  (try simp only [Act.put, List.setIfInBounds_toArray, List.set_cons_zero, List.set_cons_succ])
  refine wpAnyH_take (i := 8) (v := ?_) (take_at rfl) (by kernel_rfl) (by kernel_rfl) (by kernel_rfl) (fun _ _ _ h => h) (Or.inl ⟨by rfl, ?_⟩) (by assumption) ?_
  rotate_left
  · intro w' hSw; (try dsimp only at hSw); go_simp; (try with_reducible rfl)
  (try simp only [Act.put, List.setIfInBounds_toArray, List.set_cons_zero, List.set_cons_succ])
  refine wpAnyH_take (i := 9) (v := ?_) (take_at rfl) (by kernel_rfl) (by kernel_rfl) (by kernel_rfl) (fun _ _ _ h => h) (Or.inl ⟨by rfl, ?_⟩) (by assumption) ?_
  rotate_left
  · intro w' hSw; (try dsimp only at hSw); go_simp; (try with_reducible rfl)
  (try simp only [Act.put, List.setIfInBounds_toArray, List.set_cons_zero, List.set_cons_succ])
  refine wpAnyH_ready (rs := [7]) (by kernel_rfl) (by simp) ?_
  refine AllReadyH.cons (take_at rfl) (fun K hK => ?_) AllReadyH.nil
  go_simp
  refine ((by have h9 := id51_any doc dc y1 (SRD.out _ B.out); rw [VC.val, HDA.out] at h9; exact h9 : Calls Tryz.prog 36 #[.agg #[.int .i64 dc.k, .int .i64 dc.n, .string dc.t, .slice dc.LA dc.ln dc.lc, .slice (some ⟨bf, of, none⟩) dc.dn dc.dc]] y1 (IdOk (fun _ => True) doc y1))).mono ?_
  rintro e3 y2 ⟨c1, rfl, hr, hb⟩
  have R1 := Lib.hid hr
  clear hr
  replace B := Lib.hid (B.out.step' hb)
  clear hb
  (try go_wp2_with fail)
  refine hK.out _ _ ?_ (fun hHeld2 => ?_)
  · (try dsimp only); exact KSS.out _ B.out
  clear hK K hHeld
  have hHeld := hHeld2
  clear hHeld2
  (try simp only [Act.put, List.setIfInBounds_toArray, List.set_cons_zero, List.set_cons_succ])
  refine wpAnyH_ready (rs := [10]) (by kernel_rfl) (by simp) ?_
  refine AllReadyH.cons (take_at rfl) (fun K hK => ?_) AllReadyH.nil
  go_simp
  refine (HEA.out y2 c1 R1.out (SRK.out _ B.out)).mono ?_
  rintro e3 y3 ⟨rfl, hb⟩
  replace B := Lib.hid (B.out.step' hb)
  clear hb
  (try go_wp2_with fail)
  refine hK.out _ _ ?_ (fun hHeld2 => ?_)
  · (try dsimp only); exact KSS.out _ B.out
  clear hK K hHeld
  have hHeld := hHeld2
  clear hHeld2
  (try simp only [Act.put, List.setIfInBounds_toArray, List.set_cons_zero, List.set_cons_succ])
  refine wpAnyH_take (i := 11) (v := ?_) (take_at rfl) (by kernel_rfl) (by kernel_rfl) (by kernel_rfl) (fun _ _ _ h => h) (Or.inl ⟨by rfl, ?_⟩) (by assumption) ?_
  rotate_left
  · intro w' hSw; (try dsimp only at hSw); go_simp; (try with_reducible rfl)
  (try simp only [Act.put, List.setIfInBounds_toArray, List.set_cons_zero, List.set_cons_succ])
  refine wpAnyH_take (i := 12) (v := ?_) (take_at rfl) (by kernel_rfl) (by kernel_rfl) (by kernel_rfl) (fun _ _ _ h => h) (Or.inl ⟨by rfl, ?_⟩) (by assumption) ?_
  rotate_left
  · intro w' hSw; (try dsimp only at hSw); go_simp; (try with_reducible rfl)
  (try simp only [Act.put, List.setIfInBounds_toArray, List.set_cons_zero, List.set_cons_succ])
  refine wpAnyH_take (i := 13) (v := ?_) (take_at rfl) (by kernel_rfl) (by kernel_rfl) (by kernel_rfl) (fun _ _ _ h => h) (Or.inl ⟨by rfl, ?_⟩) (by assumption) ?_
  rotate_left
  · intro w' hSw; (try dsimp only at hSw); go_simp; (try with_reducible rfl)
  (try simp only [Act.put, List.setIfInBounds_toArray, List.set_cons_zero, List.set_cons_succ])
  refine wpAnyH_take (i := 14) (v := ?_) (take_at rfl) (by kernel_rfl) (by kernel_rfl) (by kernel_rfl) (fun _ _ _ h => h) (Or.inl ⟨by rfl, ?_⟩) (by assumption) ?_
  rotate_left
  · intro w' hSw; (try dsimp only at hSw); go_simp; (try with_reducible rfl)
  (try simp only [Act.put, List.setIfInBounds_toArray, List.set_cons_zero, List.set_cons_succ])
  refine wpAnyH_take (i := 15) (v := ?_) (take_at rfl) (by kernel_rfl) (by kernel_rfl) (by kernel_rfl) (fun _ _ _ h => h) (Or.inl ⟨by rfl, ?_⟩) (by assumption) ?_
  rotate_left
  · intro w' hSw; (try dsimp only at hSw); go_simp; (try with_reducible rfl)
  (try simp only [Act.put, List.setIfInBounds_toArray, List.set_cons_zero, List.set_cons_succ])
  refine wpAnyH_take (i := 16) (v := ?_) (take_at rfl) (by kernel_rfl) (by kernel_rfl) (by kernel_rfl) (fun _ _ _ h => h) (Or.inl ⟨by rfl, ?_⟩) (by assumption) ?_
  rotate_left
  · intro w' hSw; (try dsimp only at hSw); go_simp; (try with_reducible rfl)
  (try simp only [Act.put, List.setIfInBounds_toArray, List.set_cons_zero, List.set_cons_succ])
  refine wpAnyH_take (i := 17) (v := ?_) (take_at rfl) (by kernel_rfl) (by kernel_rfl) (by kernel_rfl) (fun _ _ _ h => h) (Or.inl ⟨by rfl, ?_⟩) (by assumption) ?_
  rotate_left
  · intro w' hSw; (try dsimp only at hSw); go_simp; (try with_reducible rfl)
  (try simp only [Act.put, List.setIfInBounds_toArray, List.set_cons_zero, List.set_cons_succ])
  refine wpAnyH_take (i := 18) (v := ?_) (take_at rfl) (by kernel_rfl) (by kernel_rfl) (by kernel_rfl) (fun _ _ _ h => h) (Or.inl ⟨by rfl, ?_⟩) (by assumption) ?_
  rotate_left
  · intro w' hSw; (try dsimp only at hSw); go_simp; (try with_reducible rfl)
  (try simp only [Act.put, List.setIfInBounds_toArray, List.set_cons_zero, List.set_cons_succ])
  refine wpAnyH_take (i := 19) (v := ?_) (take_at rfl) (by kernel_rfl) (by kernel_rfl) (by kernel_rfl) (fun _ _ _ h => h) (Or.inl ⟨by rfl, ?_⟩) (by assumption) ?_
  rotate_left
  · intro w' hSw; (try dsimp only at hSw); go_simp; (try with_reducible rfl)
  (try simp only [Act.put, List.setIfInBounds_toArray, List.set_cons_zero, List.set_cons_succ])
  refine wpAnyH_take (i := 20) (v := ?_) (take_at rfl) (by kernel_rfl) (by kernel_rfl) (by kernel_rfl) (fun _ _ _ h => h) (Or.inl ⟨by rfl, ?_⟩) (by assumption) ?_
  rotate_left
  · intro w' hSw; (try dsimp only at hSw); go_simp; (try with_reducible rfl)
  (try simp only [Act.put, List.setIfInBounds_toArray, List.set_cons_zero, List.set_cons_succ])
  refine wpAnyH_take (i := 21) (v := ?_) (take_at rfl) (by kernel_rfl) (by kernel_rfl) (by kernel_rfl) (fun _ _ _ h => h) (Or.inl ⟨by rfl, ?_⟩) (by assumption) ?_
  rotate_left
  · intro w' hSw; (try dsimp only at hSw); go_simp; (try with_reducible rfl)
  (try simp only [Act.put, List.setIfInBounds_toArray, List.set_cons_zero, List.set_cons_succ])
  refine wpAnyH_take (i := 22) (v := ?_) (take_at rfl) (by kernel_rfl) (by kernel_rfl) (by kernel_rfl) (fun _ _ _ h => h) (Or.inl ⟨by rfl, ?_⟩) (by assumption) ?_
  rotate_left
  · intro w' hSw; (try dsimp only at hSw); go_simp; (try with_reducible rfl)
  (try simp only [Act.put, List.setIfInBounds_toArray, List.set_cons_zero, List.set_cons_succ])
  refine wpAnyH_take (i := 23) (v := ?_) (take_at rfl) (by kernel_rfl) (by kernel_rfl) (by kernel_rfl) (fun _ _ _ h => h) (Or.inl ⟨by rfl, ?_⟩) (by assumption) ?_
  rotate_left
  · intro w' hSw; (try dsimp only at hSw); go_simp; (try with_reducible rfl)
  (try simp only [Act.put, List.setIfInBounds_toArray, List.set_cons_zero, List.set_cons_succ])
  refine wpAnyH_take (i := 24) (v := ?_) (take_at rfl) (by kernel_rfl) (by kernel_rfl) (by kernel_rfl) (fun _ _ _ h => h) (Or.inl ⟨by rfl, ?_⟩) (by assumption) ?_
  rotate_left
  · intro w' hSw; (try dsimp only at hSw); go_simp; (try with_reducible rfl)
  (try simp only [Act.put, List.setIfInBounds_toArray, List.set_cons_zero, List.set_cons_succ])
  refine wpAnyH_take (i := 25) (v := ?_) (take_at rfl) (by kernel_rfl) (by kernel_rfl) (by kernel_rfl) (fun _ _ _ h => h) (Or.inl ⟨by rfl, ?_⟩) (by assumption) ?_
  rotate_left
  · intro w' hSw; (try dsimp only at hSw); go_simp; (try with_reducible rfl)
  (try simp only [Act.put, List.setIfInBounds_toArray, List.set_cons_zero, List.set_cons_succ])
  refine wpAnyH_take (i := 26) (v := ?_) (take_at rfl) (by kernel_rfl) (by kernel_rfl) (by kernel_rfl) (fun _ _ _ h => h) (Or.inl ⟨by rfl, ?_⟩) (by assumption) ?_
  rotate_left
  · intro w' hSw; (try dsimp only at hSw); go_simp; (try with_reducible rfl)
  (try simp only [Act.put, List.setIfInBounds_toArray, List.set_cons_zero, List.set_cons_succ])
  refine wpAnyH_take (i := 27) (v := ?_) (take_at rfl) (by kernel_rfl) (by kernel_rfl) (by kernel_rfl) (fun _ _ _ h => h) (Or.inl ⟨by rfl, ?_⟩) (by assumption) ?_
  rotate_left
  · intro w' hSw; (try dsimp only at hSw); go_simp; (try with_reducible rfl)
  (try simp only [Act.put, List.setIfInBounds_toArray, List.set_cons_zero, List.set_cons_succ])
  refine wpAnyH_take (i := 28) (v := ?_) (take_at rfl) (by kernel_rfl) (by kernel_rfl) (by kernel_rfl) (fun _ _ _ h => h) (Or.inl ⟨by rfl, ?_⟩) (by assumption) ?_
  rotate_left
  · intro w' hSw; (try dsimp only at hSw); go_simp; (try with_reducible rfl)
  (try simp only [Act.put, List.setIfInBounds_toArray, List.set_cons_zero, List.set_cons_succ])
  refine wpAnyH_done (by kernel_rfl) ?_ _
  refine NoPanic.normal ?_
  have CE := Lib.hid B.out
  have CB := Lib.hid (HBW.out.step B.out)
  have CM := Lib.hid (HBM.out.step B.out)
  have CR := Lib.hid (HBR.out.step B.out)
  have CD := Lib.hid (SRD.out _ B.out)
  have CK := Lib.hid (SRK.out _ B.out)
  clear B hHeld KSS HVA HEA R1
  generalize y3 = wb at *
  cases nb
  · go_wp2_with fail
    go_ret
    exact ⟨false, rfl, (by intro h; cases h), BE.out.step' CE.out⟩
  simp only [Bool.not_true]
  go_wp2_with fail
  go_loopw [9] (fun u9 wr => ∃ i : Nat, i ≤ n ∧ u9 = .int .i64 i ∧ (∀ (j : Nat) (y : PV), j < i → ps[j]? = some y → cmpV (idV y.2) key = 0 → insD R lo hi y.2 = insD R lo hi doc) ∧ Below wb.heap.size wb wr) (fun u9 _ => n - (intOf u9).toNat)
  case atStart => exact ⟨0, Nat.zero_le _, rfl, fun j y hj => absurd hj (by omega), Below.refl _ _⟩
  case round =>
    obtain ⟨i, hile, rfl, hok, hbel⟩ := hrel
    have HOK := Lib.hid hok
    have HB := Lib.hid hbel
    clear hok hbel
    by_cases hlt : i < n
    · obtain ⟨p, hp⟩ : ∃ p, ps[i]? = some p := ⟨_, List.getElem?_eq_getElem (by have := HLN.out; omega)⟩
      have HPi := Lib.hid hp
      obtain ⟨b, off, rfl, _, hu, hr⟩ := (H.out.step (BE.out.step' (CE.out.step' HB.out))).vat hp
      have HPA := Lib.hid hu
      have HPR := Lib.hid hr
      have i0' : (0 : Int) ≤ (i : Int) := by omega
      have i1' : (i : Int) < (n : Int) := by omega
      clear hp hu hr
      obtain ⟨ce, hce⟩ : ∃ ce, cmpV (idV p.2) key = ce := ⟨_, rfl⟩
      have HCE := Lib.hid hce
      clear hce
      by_cases hz : ce = 0
      rotate_left
      · have hzb : (ce == 0) = false := by simpa using hz
        have HZ := Lib.hid hz
        clear hz
        go_upto_region 10 with fail
        have B : Hid (Below wr.heap.size wr wr.drew) := Lib.hid ((Below.refl wr.heap.size wr).drew)
        have SRP : Hid (∀ w' : World, Below wr.heap.size wr w' → RW w' p.1 p.2) := Lib.hid fun w' hb => HPR.out.step hb
        have SRQ : Hid (∀ w' : World, Below wr.heap.size wr w' → RW w' kc key) := Lib.hid fun w' hb => CK.out.step (HB.out.step' hb)
        have KSS : Hid (∀ w' : World, Below wr.heap.size wr w' → (fun w' => w'.cell? ⟨b, off + i * 5, none⟩ = some (.int .i64 p.1.k) ∧ w'.cell? ⟨b, off + i * 5 + 1, none⟩ = some (.int .i64 p.1.n) ∧ w'.cell? ⟨b, off + i * 5 + 2, none⟩ = some (.string p.1.t) ∧ w'.cell? ⟨b, off + i * 5 + 3, none⟩ = some (.slice p.1.LA p.1.ln p.1.lc) ∧ w'.cell? ⟨b, off + i * 5 + 4, none⟩ = some (.slice p.1.DA p.1.dn p.1.dc) ∧ w'.cell? ⟨w.heap.size + 2, 2, none⟩ = some (.int .i64 kc.k) ∧ w'.cell? ⟨w.heap.size + 2, 3, none⟩ = some (.int .i64 kc.n) ∧ w'.cell? ⟨w.heap.size + 2, 4, none⟩ = some (.string kc.t) ∧ w'.cell? ⟨w.heap.size + 2, 5, none⟩ = some (.slice kc.LA kc.ln kc.lc) ∧ w'.cell? ⟨w.heap.size + 2, 6, none⟩ = some (.slice kc.DA kc.dn kc.dc)) w') := Lib.hid fun w' hb => by
          obtain ⟨a0, a1, a2, a3, a4⟩ := HPA.out
          have cl : ∀ {x : Addr} {v : Value}, wr.cell? x = some v → w'.cell? x = some v := fun h => (hb.cell (World.block_lt_of_cell? wr _ h)).trans h
          have hW := CB.out.step (HB.out.step' hb)
          exact ⟨cl a0, cl a1, cl a2, cl a3, cl a4, hW.cellL (HXK.out 0 _ rfl), hW.cellL (HXK.out 1 _ rfl), hW.cellL (HXK.out 2 _ rfl), hW.cellL (HXK.out 3 _ rfl), hW.cellL (HXK.out 4 _ rfl)⟩
        have HEC : Hid (∀ wq c1, RW wq c1 (idV p.2) → RW wq kc key → Calls Tryz.prog 35 #[c1.val, kc.val] wq fun e w' => e = .returned (.bool false) ∧ Below wq.heap.size wq w') := Lib.hid fun wq c1 h1 h2 => by have := requal_any _ _ c1 kc wq h1 h2; rw [HCE.out] at this; rw [hzb] at this; exact this
        refine wp_region_noPanic ?_
        refine wp_region_held_drew (S := (fun w' => w'.cell? ⟨b, off + i * 5, none⟩ = some (.int .i64 p.1.k) ∧ w'.cell? ⟨b, off + i * 5 + 1, none⟩ = some (.int .i64 p.1.n) ∧ w'.cell? ⟨b, off + i * 5 + 2, none⟩ = some (.string p.1.t) ∧ w'.cell? ⟨b, off + i * 5 + 3, none⟩ = some (.slice p.1.LA p.1.ln p.1.lc) ∧ w'.cell? ⟨b, off + i * 5 + 4, none⟩ = some (.slice p.1.DA p.1.dn p.1.dc) ∧ w'.cell? ⟨w.heap.size + 2, 2, none⟩ = some (.int .i64 kc.k) ∧ w'.cell? ⟨w.heap.size + 2, 3, none⟩ = some (.int .i64 kc.n) ∧ w'.cell? ⟨w.heap.size + 2, 4, none⟩ = some (.string kc.t) ∧ w'.cell? ⟨w.heap.size + 2, 5, none⟩ = some (.slice kc.LA kc.ln kc.lc) ∧ w'.cell? ⟨w.heap.size + 2, 6, none⟩ = some (.slice kc.DA kc.dn kc.dc))) (by kernel_rfl) ?_ (fun hHeld => ?_)
        · (try dsimp only); exact KSS.out _ B.out
        generalize wr.drew = v0 at *
        refine wpAnyH_take (i := 0) (v := ?_) (take_at rfl) (by kernel_rfl) (by kernel_rfl) (by kernel_rfl) (fun _ _ _ h => h) (Or.inl ⟨by rfl, ?_⟩) (by assumption) ?_
        rotate_left
        · intro w' hSw; (try dsimp only at hSw); go_simp; (try with_reducible rfl)
        (try simp only [Act.put, List.setIfInBounds_toArray, List.set_cons_zero, List.set_cons_succ])
        refine wpAnyH_take (i := 1) (v := ?_) (take_at rfl) (by kernel_rfl) (by kernel_rfl) (by kernel_rfl) (fun _ _ _ h => h) (Or.inl ⟨by rfl, ?_⟩) (by assumption) ?_
        rotate_left
        · intro w' hSw; (try dsimp only at hSw); go_simp; (try with_reducible rfl)
        (try simp only [Act.put, List.setIfInBounds_toArray, List.set_cons_zero, List.set_cons_succ])
        refine wpAnyH_take (i := 2) (v := ?_) (take_at rfl) (by kernel_rfl) (by kernel_rfl) (by kernel_rfl) (fun _ _ _ h => h) (Or.inl ⟨by rfl, ?_⟩) (by assumption) ?_
        rotate_left
        · intro w' hSw; (try dsimp only at hSw); go_simp; (try with_reducible rfl)
        (try simp only [Act.put, List.setIfInBounds_toArray, List.set_cons_zero, List.set_cons_succ])
        refine wpAnyH_take (i := 3) (v := ?_) (take_at rfl) (by kernel_rfl) (by kernel_rfl) (by kernel_rfl) (fun _ _ _ h => h) (Or.inl ⟨by rfl, ?_⟩) (by assumption) ?_
        rotate_left
        · intro w' hSw; (try dsimp only at hSw); go_simp; (try with_reducible rfl)
        (try simp only [Act.put, List.setIfInBounds_toArray, List.set_cons_zero, List.set_cons_succ])
        refine wpAnyH_take (i := 5) (v := ?_) (take_at rfl) (by kernel_rfl) (by kernel_rfl) (by kernel_rfl) (fun _ _ _ h => h) (Or.inl ⟨by rfl, ?_⟩) (by assumption) ?_
        rotate_left
        · intro w' hSw; (try dsimp only at hSw); go_simp; (try with_reducible rfl)
        (try simp only [Act.put, List.setIfInBounds_toArray, List.set_cons_zero, List.set_cons_succ])
        refine wpAnyH_take (i := 6) (v := ?_) (take_at rfl) (by kernel_rfl) (by kernel_rfl) (by kernel_rfl) (fun _ _ _ h => h) (Or.inl ⟨by rfl, ?_⟩) (by assumption) ?_
        rotate_left
        · intro w' hSw; (try dsimp only at hSw); go_simp; (try with_reducible rfl)
        (try simp only [Act.put, List.setIfInBounds_toArray, List.set_cons_zero, List.set_cons_succ])
        refine wpAnyH_ready (rs := [4]) (by kernel_rfl) (by simp) ?_
        refine AllReadyH.cons (take_at rfl) (fun K hK => ?_) AllReadyH.nil
        go_simp
        refine (id51_any p.2 _ v0 (SRP.out _ B.out)).mono ?_
        rintro e3 y1 ⟨c1, rfl, hr, hb⟩
        have R1 := Lib.hid hr
        clear hr
        replace B := Lib.hid (B.out.step' hb)
        clear hb
        (try go_wp2_with fail)
        refine hK.out _ _ ?_ (fun hHeld2 => ?_)
        · (try dsimp only); exact KSS.out _ B.out
        clear hK K hHeld
        have hHeld := hHeld2
        clear hHeld2
        (try simp only [Act.put, List.setIfInBounds_toArray, List.set_cons_zero, List.set_cons_succ])
        refine wpAnyH_ready (rs := [7]) (by kernel_rfl) (by simp) ?_
        refine AllReadyH.cons (take_at rfl) (fun K hK => ?_) AllReadyH.nil
        go_simp
        refine (HEC.out y1 c1 R1.out (SRQ.out _ B.out)).mono ?_
        rintro e3 y2 ⟨rfl, hb⟩
        replace B := Lib.hid (B.out.step' hb)
        clear hb
        (try go_wp2_with fail)
        refine hK.out _ _ ?_ (fun hHeld2 => ?_)
        · (try dsimp only); exact KSS.out _ B.out
        clear hK K hHeld
        have hHeld := hHeld2
        clear hHeld2
        (try simp only [Act.put, List.setIfInBounds_toArray, List.set_cons_zero, List.set_cons_succ])
        refine wpAnyH_take (i := 8) (v := ?_) (take_at rfl) (by kernel_rfl) (by kernel_rfl) (by kernel_rfl) (fun _ _ _ h => h) (Or.inl ⟨by rfl, ?_⟩) (by assumption) ?_
        rotate_left
        · intro w' hSw; (try dsimp only at hSw); go_simp; (try with_reducible rfl)
        (try simp only [Act.put, List.setIfInBounds_toArray, List.set_cons_zero, List.set_cons_succ])
        refine wpAnyH_take (i := 9) (v := undef) (take_at rfl) (by kernel_rfl) (by kernel_rfl) (by kernel_rfl) (fun _ _ _ h => h) (Or.inr ⟨by rfl, rfl⟩) (by assumption) ?_
        (try simp only [Act.put, List.setIfInBounds_toArray, List.set_cons_zero, List.set_cons_succ])
        refine wpAnyH_take (i := 10) (v := undef) (take_at rfl) (by kernel_rfl) (by kernel_rfl) (by kernel_rfl) (fun _ _ _ h => h) (Or.inr ⟨by rfl, rfl⟩) (by assumption) ?_
        (try simp only [Act.put, List.setIfInBounds_toArray, List.set_cons_zero, List.set_cons_succ])
        refine wpAnyH_take (i := 11) (v := undef) (take_at rfl) (by kernel_rfl) (by kernel_rfl) (by kernel_rfl) (fun _ _ _ h => h) (Or.inr ⟨by rfl, rfl⟩) (by assumption) ?_
        (try simp only [Act.put, List.setIfInBounds_toArray, List.set_cons_zero, List.set_cons_succ])
        refine wpAnyH_take (i := 12) (v := undef) (take_at rfl) (by kernel_rfl) (by kernel_rfl) (by kernel_rfl) (fun _ _ _ h => h) (Or.inr ⟨by rfl, rfl⟩) (by assumption) ?_
        (try simp only [Act.put, List.setIfInBounds_toArray, List.set_cons_zero, List.set_cons_succ])
        refine wpAnyH_take (i := 13) (v := undef) (take_at rfl) (by kernel_rfl) (by kernel_rfl) (by kernel_rfl) (fun _ _ _ h => h) (Or.inr ⟨by rfl, rfl⟩) (by assumption) ?_
        (try simp only [Act.put, List.setIfInBounds_toArray, List.set_cons_zero, List.set_cons_succ])
        refine wpAnyH_take (i := 14) (v := undef) (take_at rfl) (by kernel_rfl) (by kernel_rfl) (by kernel_rfl) (fun _ _ _ h => h) (Or.inr ⟨by rfl, rfl⟩) (by assumption) ?_
        (try simp only [Act.put, List.setIfInBounds_toArray, List.set_cons_zero, List.set_cons_succ])
        refine wpAnyH_take (i := 15) (v := undef) (take_at rfl) (by kernel_rfl) (by kernel_rfl) (by kernel_rfl) (fun _ _ _ h => h) (Or.inr ⟨by rfl, rfl⟩) (by assumption) ?_
        (try simp only [Act.put, List.setIfInBounds_toArray, List.set_cons_zero, List.set_cons_succ])
        refine wpAnyH_take (i := 16) (v := undef) (take_at rfl) (by kernel_rfl) (by kernel_rfl) (by kernel_rfl) (fun _ _ _ h => h) (Or.inr ⟨by rfl, rfl⟩) (by assumption) ?_
        (try simp only [Act.put, List.setIfInBounds_toArray, List.set_cons_zero, List.set_cons_succ])
        refine wpAnyH_take (i := 17) (v := undef) (take_at rfl) (by kernel_rfl) (by kernel_rfl) (by kernel_rfl) (fun _ _ _ h => h) (Or.inr ⟨by rfl, rfl⟩) (by assumption) ?_
        (try simp only [Act.put, List.setIfInBounds_toArray, List.set_cons_zero, List.set_cons_succ])
        refine wpAnyH_take (i := 18) (v := undef) (take_at rfl) (by kernel_rfl) (by kernel_rfl) (by kernel_rfl) (fun _ _ _ h => h) (Or.inr ⟨by rfl, rfl⟩) (by assumption) ?_
        (try simp only [Act.put, List.setIfInBounds_toArray, List.set_cons_zero, List.set_cons_succ])
        refine wpAnyH_take (i := 19) (v := undef) (take_at rfl) (by kernel_rfl) (by kernel_rfl) (by kernel_rfl) (fun _ _ _ h => h) (Or.inr ⟨by rfl, rfl⟩) (by assumption) ?_
        (try simp only [Act.put, List.setIfInBounds_toArray, List.set_cons_zero, List.set_cons_succ])
        refine wpAnyH_take (i := 20) (v := undef) (take_at rfl) (by kernel_rfl) (by kernel_rfl) (by kernel_rfl) (fun _ _ _ h => h) (Or.inr ⟨by rfl, rfl⟩) (by assumption) ?_
        (try simp only [Act.put, List.setIfInBounds_toArray, List.set_cons_zero, List.set_cons_succ])
        refine wpAnyH_take (i := 21) (v := undef) (take_at rfl) (by kernel_rfl) (by kernel_rfl) (by kernel_rfl) (fun _ _ _ h => h) (Or.inr ⟨by rfl, rfl⟩) (by assumption) ?_
        (try simp only [Act.put, List.setIfInBounds_toArray, List.set_cons_zero, List.set_cons_succ])
        refine wpAnyH_take (i := 22) (v := ?_) (take_at rfl) (by kernel_rfl) (by kernel_rfl) (by kernel_rfl) (fun _ _ _ h => h) (Or.inl ⟨by rfl, ?_⟩) (by assumption) ?_
        rotate_left
        · intro w' hSw; (try dsimp only at hSw); go_simp; (try with_reducible rfl)
        (try simp only [Act.put, List.setIfInBounds_toArray, List.set_cons_zero, List.set_cons_succ])
        refine wpAnyH_done (by kernel_rfl) ?_ _
        refine NoPanic.normal ?_
        have HB2 := Lib.hid (HB.out.step' B.out)
        clear B hHeld KSS SRP SRQ R1 HEC
        go_wp2_with fail
        go_roundw
        case rel => exact ⟨i + 1, by omega, by go_num, fun j y hj hy he => by
          rcases Nat.lt_or_ge j i with h | h
          · exact HOK.out j y h hy he
          · have : j = i := by omega
            subst this
            rw [HPi.out] at hy
            cases hy
            rw [HCE.out] at he
            exact absurd he HZ.out, HB2.out⟩
        case measure => simp [intOf]; omega
      · subst hz
        obtain ⟨i1, hi1⟩ : ∃ i1, insD R lo hi p.2 = i1 := ⟨_, rfl⟩
        obtain ⟨i2, hi2⟩ : ∃ i2, insD R lo hi doc = i2 := ⟨_, rfl⟩
        have HI1 := Lib.hid hi1
        have HI2 := Lib.hid hi2
        clear hi1 hi2
        go_upto_region 10 with fail
        have B : Hid (Below wr.heap.size wr wr.drew) := Lib.hid ((Below.refl wr.heap.size wr).drew)
        have SRP : Hid (∀ w' : World, Below wr.heap.size wr w' → RW w' p.1 p.2) := Lib.hid fun w' hb => HPR.out.step hb
        have SRQ : Hid (∀ w' : World, Below wr.heap.size wr w' → RW w' kc key) := Lib.hid fun w' hb => CK.out.step (HB.out.step' hb)
        have SRD2 : Hid (∀ w' : World, Below wr.heap.size wr w' → RW w' dc doc) := Lib.hid fun w' hb => CD.out.step (HB.out.step' hb)
        have SRR : Hid (∀ w' : World, Below wr.heap.size wr w' → RR w' a R) := Lib.hid fun w' hb => HR.out.step (BE.out.step' (CE.out.step' (HB.out.step' hb)))
        have HIP : Hid (∀ wq, RR wq a R → RW wq p.1 p.2 → Calls Tryz.prog 16 #[mval (⟨CA, cn, cc, HA, hn, hc⟩ : MA) (⟨sp, lo, hi, fr, tt, st, cp, ch⟩ : Mv), rval a R, p.1.val] wq fun e w' => e = .returned (.bool i1) ∧ Below wq.heap.size wq w') := Lib.hid fun wq h1 h2 => by have := rin_any (⟨sp, lo, hi, fr, tt, st, cp, ch⟩ : Mv) (⟨CA, cn, cc, HA, hn, hc⟩ : MA) R a p.2 p.1 wq h1 h2 H8.out HK1.out HLO.out; simp only at this; rw [HI1.out] at this; exact this
        have HID : Hid (∀ wq, RR wq a R → RW wq dc doc → Calls Tryz.prog 16 #[mval (⟨CA, cn, cc, HA, hn, hc⟩ : MA) (⟨sp, lo, hi, fr, tt, st, cp, ch⟩ : Mv), rval a R, dc.val] wq fun e w' => e = .returned (.bool i2) ∧ Below wq.heap.size wq w') := Lib.hid fun wq h1 h2 => by have := rin_any (⟨sp, lo, hi, fr, tt, st, cp, ch⟩ : Mv) (⟨CA, cn, cc, HA, hn, hc⟩ : MA) R a doc dc wq h1 h2 H8.out HK1.out HLO.out; simp only at this; rw [HI2.out] at this; exact this
        have KSS : Hid (∀ w' : World, Below wr.heap.size wr w' → (fun w' => w'.cell? ⟨b, off + i * 5, none⟩ = some (.int .i64 p.1.k) ∧ w'.cell? ⟨b, off + i * 5 + 1, none⟩ = some (.int .i64 p.1.n) ∧ w'.cell? ⟨b, off + i * 5 + 2, none⟩ = some (.string p.1.t) ∧ w'.cell? ⟨b, off + i * 5 + 3, none⟩ = some (.slice p.1.LA p.1.ln p.1.lc) ∧ w'.cell? ⟨b, off + i * 5 + 4, none⟩ = some (.slice p.1.DA p.1.dn p.1.dc) ∧ w'.cell? ⟨w.heap.size + 2, 2, none⟩ = some (.int .i64 kc.k) ∧ w'.cell? ⟨w.heap.size + 2, 3, none⟩ = some (.int .i64 kc.n) ∧ w'.cell? ⟨w.heap.size + 2, 4, none⟩ = some (.string kc.t) ∧ w'.cell? ⟨w.heap.size + 2, 5, none⟩ = some (.slice kc.LA kc.ln kc.lc) ∧ w'.cell? ⟨w.heap.size + 2, 6, none⟩ = some (.slice kc.DA kc.dn kc.dc) ∧ w'.cell? ⟨w.heap.size + 2, 7, none⟩ = some (.int .i64 dc.k) ∧ w'.cell? ⟨w.heap.size + 2, 8, none⟩ = some (.int .i64 dc.n) ∧ w'.cell? ⟨w.heap.size + 2, 9, none⟩ = some (.string dc.t) ∧ w'.cell? ⟨w.heap.size + 2, 10, none⟩ = some (.slice dc.LA dc.ln dc.lc) ∧ w'.cell? ⟨w.heap.size + 2, 11, none⟩ = some (.slice dc.DA dc.dn dc.dc) ∧ w'.cell? ⟨w.heap.size, 0, none⟩ = some (.string sp) ∧ w'.cell? ⟨w.heap.size, 1, none⟩ = some (.string lo) ∧ w'.cell? ⟨w.heap.size, 2, none⟩ = some (.string hi) ∧ w'.cell? ⟨w.heap.size, 3, none⟩ = some (.int .i64 fr) ∧ w'.cell? ⟨w.heap.size, 4, none⟩ = some (.int .i64 tt) ∧ w'.cell? ⟨w.heap.size, 5, none⟩ = some (.int .i64 st) ∧ w'.cell? ⟨w.heap.size, 6, none⟩ = some (.slice CA cn cc) ∧ w'.cell? ⟨w.heap.size, 7, none⟩ = some (.slice HA hn hc) ∧ w'.cell? ⟨w.heap.size + 1, 0, none⟩ = some (.string R.sp) ∧ w'.cell? ⟨w.heap.size + 1, 1, none⟩ = some (.slice a.KA a.kn a.kc) ∧ w'.cell? ⟨w.heap.size + 1, 2, none⟩ = some (.bool R.ha) ∧ w'.cell? ⟨w.heap.size + 1, 3, none⟩ = some (.int .i64 R.ep) ∧ w'.cell? ⟨w.heap.size + 1, 4, none⟩ = some (.int .i64 R.ver) ∧ w'.cell? ⟨w.heap.size + 1, 5, none⟩ = some (.slice a.CA a.cn a.cc)) w') := Lib.hid fun w' hb => by
          obtain ⟨a0, a1, a2, a3, a4⟩ := HPA.out
          have cl : ∀ {x : Addr} {v : Value}, wr.cell? x = some v → w'.cell? x = some v := fun h => (hb.cell (World.block_lt_of_cell? wr _ h)).trans h
          have hW := CB.out.step (HB.out.step' hb)
          obtain ⟨m0, m1, m2, m3, m4, m5, m6, m7⟩ := blk_mv (CM.out.step (HB.out.step' hb))
          obtain ⟨q0, q1, q2, q3, q4, q5, qz⟩ := blk_ro (CR.out.step (HB.out.step' hb))
          exact ⟨cl a0, cl a1, cl a2, cl a3, cl a4, hW.cellL (HXK.out 0 _ rfl), hW.cellL (HXK.out 1 _ rfl), hW.cellL (HXK.out 2 _ rfl), hW.cellL (HXK.out 3 _ rfl), hW.cellL (HXK.out 4 _ rfl), hW.cellL (HXD.out 0 _ rfl), hW.cellL (HXD.out 1 _ rfl), hW.cellL (HXD.out 2 _ rfl), hW.cellL (HXD.out 3 _ rfl), hW.cellL (HXD.out 4 _ rfl), m0, m1, m2, m3, m4, m5, m6, m7, q0, q1, q2, q3, q4, q5⟩
        have HEC : Hid (∀ wq c1, RW wq c1 (idV p.2) → RW wq kc key → Calls Tryz.prog 35 #[c1.val, kc.val] wq fun e w' => e = .returned (.bool true) ∧ Below wq.heap.size wq w') := Lib.hid fun wq c1 h1 h2 => by have := requal_any _ _ c1 kc wq h1 h2; rw [HCE.out] at this; exact this
        refine wp_region_noPanic ?_
        refine wp_region_held_drew (S := (fun w' => w'.cell? ⟨b, off + i * 5, none⟩ = some (.int .i64 p.1.k) ∧ w'.cell? ⟨b, off + i * 5 + 1, none⟩ = some (.int .i64 p.1.n) ∧ w'.cell? ⟨b, off + i * 5 + 2, none⟩ = some (.string p.1.t) ∧ w'.cell? ⟨b, off + i * 5 + 3, none⟩ = some (.slice p.1.LA p.1.ln p.1.lc) ∧ w'.cell? ⟨b, off + i * 5 + 4, none⟩ = some (.slice p.1.DA p.1.dn p.1.dc) ∧ w'.cell? ⟨w.heap.size + 2, 2, none⟩ = some (.int .i64 kc.k) ∧ w'.cell? ⟨w.heap.size + 2, 3, none⟩ = some (.int .i64 kc.n) ∧ w'.cell? ⟨w.heap.size + 2, 4, none⟩ = some (.string kc.t) ∧ w'.cell? ⟨w.heap.size + 2, 5, none⟩ = some (.slice kc.LA kc.ln kc.lc) ∧ w'.cell? ⟨w.heap.size + 2, 6, none⟩ = some (.slice kc.DA kc.dn kc.dc) ∧ w'.cell? ⟨w.heap.size + 2, 7, none⟩ = some (.int .i64 dc.k) ∧ w'.cell? ⟨w.heap.size + 2, 8, none⟩ = some (.int .i64 dc.n) ∧ w'.cell? ⟨w.heap.size + 2, 9, none⟩ = some (.string dc.t) ∧ w'.cell? ⟨w.heap.size + 2, 10, none⟩ = some (.slice dc.LA dc.ln dc.lc) ∧ w'.cell? ⟨w.heap.size + 2, 11, none⟩ = some (.slice dc.DA dc.dn dc.dc) ∧ w'.cell? ⟨w.heap.size, 0, none⟩ = some (.string sp) ∧ w'.cell? ⟨w.heap.size, 1, none⟩ = some (.string lo) ∧ w'.cell? ⟨w.heap.size, 2, none⟩ = some (.string hi) ∧ w'.cell? ⟨w.heap.size, 3, none⟩ = some (.int .i64 fr) ∧ w'.cell? ⟨w.heap.size, 4, none⟩ = some (.int .i64 tt) ∧ w'.cell? ⟨w.heap.size, 5, none⟩ = some (.int .i64 st) ∧ w'.cell? ⟨w.heap.size, 6, none⟩ = some (.slice CA cn cc) ∧ w'.cell? ⟨w.heap.size, 7, none⟩ = some (.slice HA hn hc) ∧ w'.cell? ⟨w.heap.size + 1, 0, none⟩ = some (.string R.sp) ∧ w'.cell? ⟨w.heap.size + 1, 1, none⟩ = some (.slice a.KA a.kn a.kc) ∧ w'.cell? ⟨w.heap.size + 1, 2, none⟩ = some (.bool R.ha) ∧ w'.cell? ⟨w.heap.size + 1, 3, none⟩ = some (.int .i64 R.ep) ∧ w'.cell? ⟨w.heap.size + 1, 4, none⟩ = some (.int .i64 R.ver) ∧ w'.cell? ⟨w.heap.size + 1, 5, none⟩ = some (.slice a.CA a.cn a.cc))) (by kernel_rfl) ?_ (fun hHeld => ?_)
        · (try dsimp only); exact KSS.out _ B.out
        generalize wr.drew = v0 at *
        refine wpAnyH_take (i := 0) (v := ?_) (take_at rfl) (by kernel_rfl) (by kernel_rfl) (by kernel_rfl) (fun _ _ _ h => h) (Or.inl ⟨by rfl, ?_⟩) (by assumption) ?_
        rotate_left
        · intro w' hSw; (try dsimp only at hSw); go_simp; (try with_reducible rfl)
        (try simp only [Act.put, List.setIfInBounds_toArray, List.set_cons_zero, List.set_cons_succ])
        refine wpAnyH_take (i := 1) (v := ?_) (take_at rfl) (by kernel_rfl) (by kernel_rfl) (by kernel_rfl) (fun _ _ _ h => h) (Or.inl ⟨by rfl, ?_⟩) (by assumption) ?_
        rotate_left
        · intro w' hSw; (try dsimp only at hSw); go_simp; (try with_reducible rfl)
        (try simp only [Act.put, List.setIfInBounds_toArray, List.set_cons_zero, List.set_cons_succ])
        refine wpAnyH_take (i := 2) (v := ?_) (take_at rfl) (by kernel_rfl) (by kernel_rfl) (by kernel_rfl) (fun _ _ _ h => h) (Or.inl ⟨by rfl, ?_⟩) (by assumption) ?_
        rotate_left
        · intro w' hSw; (try dsimp only at hSw); go_simp; (try with_reducible rfl)
        (try simp only [Act.put, List.setIfInBounds_toArray, List.set_cons_zero, List.set_cons_succ])
        refine wpAnyH_take (i := 3) (v := ?_) (take_at rfl) (by kernel_rfl) (by kernel_rfl) (by kernel_rfl) (fun _ _ _ h => h) (Or.inl ⟨by rfl, ?_⟩) (by assumption) ?_
        rotate_left
        · intro w' hSw; (try dsimp only at hSw); go_simp; (try with_reducible rfl)
        (try simp only [Act.put, List.setIfInBounds_toArray, List.set_cons_zero, List.set_cons_succ])
        refine wpAnyH_take (i := 5) (v := ?_) (take_at rfl) (by kernel_rfl) (by kernel_rfl) (by kernel_rfl) (fun _ _ _ h => h) (Or.inl ⟨by rfl, ?_⟩) (by assumption) ?_
        rotate_left
        · intro w' hSw; (try dsimp only at hSw); go_simp; (try with_reducible rfl)
        (try simp only [Act.put, List.setIfInBounds_toArray, List.set_cons_zero, List.set_cons_succ])
        refine wpAnyH_take (i := 6) (v := ?_) (take_at rfl) (by kernel_rfl) (by kernel_rfl) (by kernel_rfl) (fun _ _ _ h => h) (Or.inl ⟨by rfl, ?_⟩) (by assumption) ?_
        rotate_left
        · intro w' hSw; (try dsimp only at hSw); go_simp; (try with_reducible rfl)
        (try simp only [Act.put, List.setIfInBounds_toArray, List.set_cons_zero, List.set_cons_succ])
        refine wpAnyH_ready (rs := [4]) (by kernel_rfl) (by simp) ?_
        refine AllReadyH.cons (take_at rfl) (fun K hK => ?_) AllReadyH.nil
        go_simp
        refine (id51_any p.2 _ v0 (SRP.out _ B.out)).mono ?_
        rintro e3 y1 ⟨c1, rfl, hr, hb⟩
        have R1 := Lib.hid hr
        clear hr
        replace B := Lib.hid (B.out.step' hb)
        clear hb
        (try go_wp2_with fail)
        refine hK.out _ _ ?_ (fun hHeld2 => ?_)
        · (try dsimp only); exact KSS.out _ B.out
        clear hK K hHeld
        have hHeld := hHeld2
        clear hHeld2
        (try simp only [Act.put, List.setIfInBounds_toArray, List.set_cons_zero, List.set_cons_succ])
        refine wpAnyH_ready (rs := [7]) (by kernel_rfl) (by simp) ?_
        refine AllReadyH.cons (take_at rfl) (fun K hK => ?_) AllReadyH.nil
        go_simp
        refine (HEC.out y1 c1 R1.out (SRQ.out _ B.out)).mono ?_
        rintro e3 y2 ⟨rfl, hb⟩
        replace B := Lib.hid (B.out.step' hb)
        clear hb
        (try go_wp2_with fail)
        refine hK.out _ _ ?_ (fun hHeld2 => ?_)
        · (try dsimp only); exact KSS.out _ B.out
        clear hK K hHeld
        have hHeld := hHeld2
        clear hHeld2
        (try simp only [Act.put, List.setIfInBounds_toArray, List.set_cons_zero, List.set_cons_succ])
        refine wpAnyH_take (i := 8) (v := ?_) (take_at rfl) (by kernel_rfl) (by kernel_rfl) (by kernel_rfl) (fun _ _ _ h => h) (Or.inl ⟨by rfl, ?_⟩) (by assumption) ?_
        rotate_left
        · intro w' hSw; (try dsimp only at hSw); go_simp; (try with_reducible rfl)
        (try simp only [Act.put, List.setIfInBounds_toArray, List.set_cons_zero, List.set_cons_succ])
        refine wpAnyH_take (i := 9) (v := ?_) (take_at rfl) (by kernel_rfl) (by kernel_rfl) (by kernel_rfl) (fun _ _ _ h => h) (Or.inl ⟨by rfl, ?_⟩) (by assumption) ?_
        rotate_left
        · intro w' hSw; (try dsimp only at hSw); go_simp; (try with_reducible rfl)
        (try simp only [Act.put, List.setIfInBounds_toArray, List.set_cons_zero, List.set_cons_succ])
        refine wpAnyH_take (i := 10) (v := ?_) (take_at rfl) (by kernel_rfl) (by kernel_rfl) (by kernel_rfl) (fun _ _ _ h => h) (Or.inl ⟨by rfl, ?_⟩) (by assumption) ?_
        rotate_left
        · intro w' hSw; (try dsimp only at hSw); go_simp; (try with_reducible rfl)
        (try simp only [Act.put, List.setIfInBounds_toArray, List.set_cons_zero, List.set_cons_succ])
        refine wpAnyH_take (i := 11) (v := ?_) (take_at rfl) (by kernel_rfl) (by kernel_rfl) (by kernel_rfl) (fun _ _ _ h => h) (Or.inl ⟨by rfl, ?_⟩) (by assumption) ?_
        rotate_left
        · intro w' hSw; (try dsimp only at hSw); go_simp; (try with_reducible rfl)
        (try simp only [Act.put, List.setIfInBounds_toArray, List.set_cons_zero, List.set_cons_succ])
        refine wpAnyH_take (i := 12) (v := ?_) (take_at rfl) (by kernel_rfl) (by kernel_rfl) (by kernel_rfl) (fun _ _ _ h => h) (Or.inl ⟨by rfl, ?_⟩) (by assumption) ?_
        rotate_left
        · intro w' hSw; (try dsimp only at hSw); go_simp; (try with_reducible rfl)
        (try simp only [Act.put, List.setIfInBounds_toArray, List.set_cons_zero, List.set_cons_succ])
        refine wpAnyH_take (i := 13) (v := ?_) (take_at rfl) (by kernel_rfl) (by kernel_rfl) (by kernel_rfl) (fun _ _ _ h => h) (Or.inl ⟨by rfl, ?_⟩) (by assumption) ?_
        rotate_left
        · intro w' hSw; (try dsimp only at hSw); go_simp; (try with_reducible rfl)
        (try simp only [Act.put, List.setIfInBounds_toArray, List.set_cons_zero, List.set_cons_succ])
        refine wpAnyH_take (i := 14) (v := ?_) (take_at rfl) (by kernel_rfl) (by kernel_rfl) (by kernel_rfl) (fun _ _ _ h => h) (Or.inl ⟨by rfl, ?_⟩) (by assumption) ?_
        rotate_left
        · intro w' hSw; (try dsimp only at hSw); go_simp; (try with_reducible rfl)
        (try simp only [Act.put, List.setIfInBounds_toArray, List.set_cons_zero, List.set_cons_succ])
        refine wpAnyH_take (i := 16) (v := ?_) (take_at rfl) (by kernel_rfl) (by kernel_rfl) (by kernel_rfl) (fun _ _ _ h => h) (Or.inl ⟨by rfl, ?_⟩) (by assumption) ?_
        rotate_left
        · intro w' hSw; (try dsimp only at hSw); go_simp; (try with_reducible rfl)
        (try simp only [Act.put, List.setIfInBounds_toArray, List.set_cons_zero, List.set_cons_succ])
        refine wpAnyH_take (i := 17) (v := ?_) (take_at rfl) (by kernel_rfl) (by kernel_rfl) (by kernel_rfl) (fun _ _ _ h => h) (Or.inl ⟨by rfl, ?_⟩) (by assumption) ?_
        rotate_left
        · intro w' hSw; (try dsimp only at hSw); go_simp; (try with_reducible rfl)
        (try simp only [Act.put, List.setIfInBounds_toArray, List.set_cons_zero, List.set_cons_succ])
        refine wpAnyH_take (i := 18) (v := ?_) (take_at rfl) (by kernel_rfl) (by kernel_rfl) (by kernel_rfl) (fun _ _ _ h => h) (Or.inl ⟨by rfl, ?_⟩) (by assumption) ?_
        rotate_left
        · intro w' hSw; (try dsimp only at hSw); go_simp; (try with_reducible rfl)
        (try simp only [Act.put, List.setIfInBounds_toArray, List.set_cons_zero, List.set_cons_succ])
        refine wpAnyH_take (i := 19) (v := ?_) (take_at rfl) (by kernel_rfl) (by kernel_rfl) (by kernel_rfl) (fun _ _ _ h => h) (Or.inl ⟨by rfl, ?_⟩) (by assumption) ?_
        rotate_left
        · intro w' hSw; (try dsimp only at hSw); go_simp; (try with_reducible rfl)
        (try simp only [Act.put, List.setIfInBounds_toArray, List.set_cons_zero, List.set_cons_succ])
        refine wpAnyH_ready (rs := [15]) (by kernel_rfl) (by simp) ?_
        refine AllReadyH.cons (take_at rfl) (fun K hK => ?_) AllReadyH.nil
        go_simp
        refine (HIP.out y2 (SRR.out _ B.out) (SRP.out _ B.out)).mono ?_
        rintro e3 y3 ⟨rfl, hb⟩
        replace B := Lib.hid (B.out.step' hb)
        clear hb
        (try go_wp2_with fail)
        refine hK.out _ _ ?_ (fun hHeld2 => ?_)
        · (try dsimp only); exact KSS.out _ B.out
        clear hK K hHeld
        have hHeld := hHeld2
        clear hHeld2
        (try simp only [Act.put, List.setIfInBounds_toArray, List.set_cons_zero, List.set_cons_succ])
        refine wpAnyH_ready (rs := [20]) (by kernel_rfl) (by simp) ?_
        refine AllReadyH.cons (take_at rfl) (fun K hK => ?_) AllReadyH.nil
        go_simp
        refine (HID.out y3 (SRR.out _ B.out) (SRD2.out _ B.out)).mono ?_
        rintro e3 y4 ⟨rfl, hb⟩
        replace B := Lib.hid (B.out.step' hb)
        clear hb
        (try go_wp2_with fail)
        refine hK.out _ _ ?_ (fun hHeld2 => ?_)
        · (try dsimp only); exact KSS.out _ B.out
        clear hK K hHeld
        have hHeld := hHeld2
        clear hHeld2
        (try simp only [Act.put, List.setIfInBounds_toArray, List.set_cons_zero, List.set_cons_succ])
        refine wpAnyH_take (i := 21) (v := ?_) (take_at rfl) (by kernel_rfl) (by kernel_rfl) (by kernel_rfl) (fun _ _ _ h => h) (Or.inl ⟨by rfl, ?_⟩) (by assumption) ?_
        rotate_left
        · intro w' hSw; (try dsimp only at hSw); go_simp; (try with_reducible rfl)
        (try simp only [Act.put, List.setIfInBounds_toArray, List.set_cons_zero, List.set_cons_succ])
        refine wpAnyH_take (i := 22) (v := ?_) (take_at rfl) (by kernel_rfl) (by kernel_rfl) (by kernel_rfl) (fun _ _ _ h => h) (Or.inl ⟨by rfl, ?_⟩) (by assumption) ?_
        rotate_left
        · intro w' hSw; (try dsimp only at hSw); go_simp; (try with_reducible rfl)
        (try simp only [Act.put, List.setIfInBounds_toArray, List.set_cons_zero, List.set_cons_succ])
        refine wpAnyH_done (by kernel_rfl) ?_ _
        refine NoPanic.normal ?_
        have HB2 := Lib.hid (HB.out.step' B.out)
        clear B hHeld KSS SRP SRQ R1 HEC SRD2 SRR HIP HID
        by_cases hi12 : i1 = i2
        · have HSAME : Hid (insD R lo hi p.2 = insD R lo hi doc) := by rw [Hid, HI1.out, HI2.out]; exact hi12
          have hbb : (!(i1 == i2)) = false := by simp [hi12]
          rw [hbb]
          clear hi12 hbb
          go_wp2_with fail
          go_roundw
          case rel => exact ⟨i + 1, by omega, by go_num, fun j y hj hy he => by
            rcases Nat.lt_or_ge j i with h | h
            · exact HOK.out j y h hy he
            · have : j = i := by omega
              subst this
              rw [HPi.out] at hy
              cases hy
              exact HSAME.out, HB2.out⟩
          case measure => simp [intOf]; omega
        · have hbb : (!(i1 == i2)) = true := by simp [hi12]
          rw [hbb]
          clear hi12 hbb
          go_wp2_with fail
          go_ret
          exact ⟨false, rfl, (by intro h; cases h), BE.out.step' (CE.out.step' HB2.out)⟩
    · have hik : i = n := by omega
      subst hik
      go_wp2_with fail
      go_ret
      refine ⟨true, rfl, fun _ => ⟨.inl rfl, rfl, fun _ => HE0.out, fun _ y hy he => ?_⟩, BE.out.step' (CE.out.step' HB.out)⟩
      obtain ⟨q, hq, rfl⟩ := List.mem_map.1 hy
      obtain ⟨j, hj⟩ := List.getElem?_of_mem hq
      exact HOK.out j q (by rw [HLN.out]; exact (List.getElem?_eq_some_iff.1 hj).1) hj he

end Go.Proofs.YtlmmgjgkmbmgpaaGreatDoor


