/- The walk of the reference's Copy. (Printed by gen_rcopy.py.). -/
import Derived.Test.YtckeccfbadlhhaaDoorIvCopy
import Derived.Test.YtckeccfbadlhhaaDoorValTake
namespace Go.Proofs.YtckeccfbadlhhaaDoor
open Go.RowKit

set_option linter.unusedSimpArgs false
set_option maxRecDepth 100000 in
set_option maxHeartbeats 4000000 in
theorem rcopy_any (x : Val) : ∀ (c : VC) (w : World), RW w c x → Calls Tryd.prog 32 #[c.val] w (CopyOk w x) := by
  induction x using Val.ind with
  | h k n t l d ihl ihd =>
  intro c w h
  obtain ⟨i0, hi0, hz0, hz1, hz2⟩ := info_parts info_value
  obtain ⟨j0, hj0, hy0, hy1, hy2⟩ := info_parts info_field
  have H := Lib.hid h
  have IHL := Lib.hid ihl
  have IHD := Lib.hid ihd
  obtain ⟨ps0, hps0, hsl⟩ := h.sl
  obtain ⟨fs0, hfs0, hsd⟩ := h.sd
  obtain ⟨ck, cn, ct, cLA, cln, clc, cDA, cdn, cdc⟩ := c
  simp only [Val.l, Val.d] at hps0 hfs0 hsl hsd
  have hlz : cln * 80 ≤ 140737488355328 := hsl.sz
  have hdz : cdn * 96 ≤ 140737488355328 := hsd.sz
  have HLn := Lib.hid hsl.sr.ln
  have HDn := Lib.hid hsd.sr.ln
  have HSL := Lib.hid hsl
  have HSD := Lib.hid hsd
  have HP := Lib.hid hps0
  have HF := Lib.hid hfs0
  have I0 : Hid (CyL w ⟨ck, cn, ct, cLA, cln, clc, cDA, cdn, cdc⟩ l 0 none 0 [] (((w.alloc (Obj.cells #[.int .i64 ck, .int .i64 cn, .string ct, .slice cLA cln clc, .slice cDA cdn cdc] 25)).alloc (Obj.cells VC.zero.arr 25)).alloc (Obj.cells #[.int .i64 ck, .int .i64 cn, .string ct, .slice none 0 0, .slice none 0 0] 25))) :=
    Lib.hid ⟨((Blk.new_at rfl).alloc _).alloc _, (Blk.new_at (by simp)).alloc _, Blk.new_at (by simp), own_nil _ _ _ _, rfl, by simp, (((Below.refl _ _).alloc (Nat.le_refl _) _).alloc (by simp) _).alloc (by simp; omega) _⟩
  clear h ihl ihd hsl hsd hps0 hfs0
  go_enter Tryd.func32, Tryd.ntmps32
  go_upto_region 2 with fail
  change (Code.region 2 _ _).wp _ _ _ (((w.alloc (Obj.cells #[.int .i64 ck, .int .i64 cn, .string ct, .slice cLA cln clc, .slice cDA cdn cdc] 25)).alloc (Obj.cells VC.zero.arr 25)).alloc (Obj.cells #[.int .i64 ck, .int .i64 cn, .string ct, .slice none 0 0, .slice none 0 0] 25))
  generalize ((w.alloc (Obj.cells #[.int .i64 ck, .int .i64 cn, .string ct, .slice cLA cln clc, .slice cDA cdn cdc] 25)).alloc (Obj.cells VC.zero.arr 25)).alloc (Obj.cells #[.int .i64 ck, .int .i64 cn, .string ct, .slice none 0 0, .slice none 0 0] 25) = wa at *
  go_wp2_with fail
  go_loopw [4] (fun v4 wr => ∃ (i : Nat) (A : Option Addr) (cap : Nat) (ps : List PV), i ≤ cln ∧ v4 = .int .i64 i ∧ CyL w ⟨ck, cn, ct, cLA, cln, clc, cDA, cdn, cdc⟩ l i A cap ps wr) (fun v4 _ => cln - (intOf v4).toNat)
  case atStart => exact ⟨0, none, 0, [], Nat.zero_le _, rfl, I0.out⟩
  case round =>
    obtain ⟨i, A, cap, ps, hi, rfl, I⟩ := hrel
    have J := Lib.hid I
    by_cases hlt : i < cln
    · obtain ⟨p, hp⟩ : ∃ p, ps0[i]? = some p := ⟨_, List.getElem?_eq_getElem (by have := HLn.out; omega)⟩
      obtain ⟨b, off, rfl, _, hu, hr⟩ := HSL.out.vat hp
      have hy : l[i]? = some p.2 := by rw [← HP.out, List.getElem?_map, hp]; rfl
      have HY := Lib.hid hy
      have hbr : b < wr.heap.size := by have := hu.lt; have := I.bel.size; omega
      have HR := Lib.hid (hr.step I.bel)
      obtain ⟨y0, y1, y2, y3, y4⟩ := hu.keep (I.bel.block b hu.lt)
      have J2 := J
      have R2 := HR
      have q3 := I.b2.cell 3
      simp at q3
      have a3 := I.b0.cell 3
      simp at a3
      have i0' : (0 : Int) ≤ (i : Int) := by omega
      have i1' : (i : Int) < (cln : Int) := by omega
      have hbd : b ≠ w.heap.size + 1 + 1 := by have := hu.lt; omega
      have hs : (Value.slice A i cap).ownBlock ≠ some (w.heap.size + 1 + 1) := own_ne I.own (by omega)
      clear hp hu hr hy I J HR
      go_upto_region 5 with fail
      go_region_law (first
        | (refine step_append_any _ rfl (.tmp 21) (.tmp 28) 22 rfl (w.heap.size + 3) 25 i0 VC.zero.val 5 80 Tryd.underlying22 hi0 hz0 hz1 hz2 rfl (by decide) (.slice A i cap) i (flat recV ps) (by simp [Act.eval]) ((own_step J2.out.own HB3.out).alloc _) (w3.heap.size + 1) (some ⟨w3.heap.size, 0, none⟩) 1 1 (recV (c2, p.2)) (by simp [Act.eval]) ⟨rfl, fun _ => ⟨_, rfl, by simp, news_at _ _ _⟩⟩ (recV_one _) (by simp only [maxLen]; omega) (by omega) (by simp; have := (J2.out.step HB3.out).b2.lt; omega) ?_; intro v' w4 hown4 hgr hat; obtain ⟨A4, cap4, hv4, hle4⟩ := own_slice hown4; rw [hv4]; have f2 : w4.cell? ⟨w.heap.size + 1 + 1, 3, none⟩ = some (.slice A i cap) := gr_cell hgr s0 hs; have z2 : w4.frozen? ⟨w.heap.size + 1 + 1, 3, none⟩ = false := (gr_frozen hgr (J2.out.step HB3.out).b2.lt hs).trans ((J2.out.step HB3.out).b2.frozen 3))
        | (go_simp; go_at_call 32; refine (IHL.out p.2 (List.mem_of_getElem? HY.out) p.1 _ (R2.out.drewN 1)).mono ?_; rintro e3 w3 ⟨c2, rfl, hcl2, hb3⟩; replace hb3 : Below wr.heap.size wr w3 := hb3.undrewN; replace hcl2 : RV (fun b => wr.heap.size ≤ b) w3 c2 p.2 := hcl2; have s0 := (hb3.cell (p := ⟨w.heap.size + 1 + 1, 3, none⟩) J2.out.b2.lt).trans q3; have l3 : w.heap.size + 1 + 1 < w3.heap.size := (J2.out.step hb3).b2.lt; have HC3 := Lib.hid hcl2; have HB3 := Lib.hid hb3; clear hcl2 hb3))
      all_goals
        have HI := Lib.hid ((J2.out.step HB3.out).next HY.out (HC3.out.mono fun q hq => ⟨by have := J2.out.b2.lt; omega, fun e => by have := own_lt J2.out.own e; omega⟩) hgr (by rw [← hv4]; exact hat) (by rw [← hv4]; exact hown4))
        clear f2 z2 s0 q3 a3 y0 y1 y2 y3 y4 hgr hat hown4 hv4 J2 R2 HB3 HC3 l3 hs i0' i1' hbd
        generalize w4.setCell ⟨w.heap.size + 1 + 1, 3, none⟩ (.slice A4 (i + 1) cap4) = w5 at *
        go_wp2_with fail
        go_roundw
        case rel => exact ⟨i + 1, A4, cap4, _, by omega, by go_num, HI.out⟩
        case measure => simp [intOf]; omega
    · have hpl : ps.length = i := by have := congrArg List.length I.eq; have h2 := HLn.out; have h3 := congrArg List.length HP.out; rw [List.length_map] at this h3; rw [List.length_take] at this; omega
      have HPS : Hid (ps.map Prod.snd = l) := by rw [Hid, I.eq]; exact List.take_of_length_le (by have h2 := HLn.out; have h3 := congrArg List.length HP.out; rw [List.length_map] at h3; omega)
      have D0 := Lib.hid (CyD.start (d := d) I hpl (by unfold reach; omega))
      clear I J hpl
      obtain ⟨a0, a1, a2, a3, a4⟩ := VAt.of_blk D0.out.b0
      go_wp2_with fail
      clear a0 a1 a2 a3 a4
      obtain ⟨wo, hwo⟩ : ∃ wo : World, wo = wr := ⟨_, rfl⟩
      rw [← hwo] at D0 ⊢
      clear hwo
      go_loopw [5] (fun v5 wr => ∃ (j : Nat) (B : Option Addr) (cap' : Nat) (fs : List PF), j ≤ cdn ∧ v5 = .int .i64 j ∧ CyD w ⟨ck, cn, ct, cLA, cln, clc, cDA, cdn, cdc⟩ d A i cap ps j B cap' fs wr) (fun v5 _ => cdn - (intOf v5).toNat)
      case atStart => exact ⟨0, none, 0, [], Nat.zero_le _, rfl, D0.out⟩
      case round =>
        obtain ⟨j, B, cap', fs, hj, rfl, I⟩ := hrel
        have J := Lib.hid I
        clear D0
        by_cases hjt : j < cdn
        · obtain ⟨p, hp⟩ : ∃ p, fs0[j]? = some p := ⟨_, List.getElem?_eq_getElem (by have := HDn.out; omega)⟩
          have hns := HSD.out.ns p (List.mem_of_getElem? hp)
          obtain ⟨b, off, rfl, _, hs0, hu, hr⟩ := HSD.out.vat hp
          have hy : d[j]? = some p.2 := by rw [← HF.out, List.getElem?_map, hp]; rfl
          have HY := Lib.hid hy
          have HNS := Lib.hid hns
          have hbr : b < wr.heap.size := by have := hu.lt; have := I.bel.size; omega
          have HR := Lib.hid (hr.step I.bel)
          have y5 := (I.bel.cell (p := ⟨b, off + j * 6, none⟩) hu.lt).trans hs0
          obtain ⟨y0, y1, y2, y3, y4⟩ := hu.keep (I.bel.block b hu.lt)
          have J2 := J
          have R2 := HR
          have q3 := I.b2.cell 4
          simp at q3
          have a3 := I.b0.cell 4
          simp at a3
          have i0' : (0 : Int) ≤ (j : Int) := by omega
          have i1' : (j : Int) < (cdn : Int) := by omega
          have hbd : b ≠ w.heap.size + 1 + 1 := by have := hu.lt; omega
          have hbw := hu.lt
          have hs : (Value.slice B j cap').ownBlock ≠ some (w.heap.size + 1 + 1) := own_ne I.own (by omega)
          clear hp hu hr hy I hs0 hns J HR
          go_upto_region 9 with fail
          have l0 : w.heap.size < wr.heap.size := J2.out.b0.lt
          have l2 : w.heap.size + 1 + 1 < wr.heap.size := J2.out.b2.lt
          have KC : Hid (∀ w' : World, (∀ g, g ≤ w.heap.size → w'.heap[g]? = wr.heap[g]?) → w'.cell? ⟨w.heap.size, 4, none⟩ = some (.slice (some ⟨b, off, none⟩) cdn cdc) ∧ w'.cell? ⟨b, off + j * 6, none⟩ = some (.string p.2.s) ∧ w'.cell? ⟨b, off + j * 6 + 1, none⟩ = some (.int .i64 p.1.k) ∧ w'.cell? ⟨b, off + j * 6 + 2, none⟩ = some (.int .i64 p.1.n) ∧ w'.cell? ⟨b, off + j * 6 + 3, none⟩ = some (.string p.1.t) ∧ w'.cell? ⟨b, off + j * 6 + 4, none⟩ = some (.slice p.1.LA p.1.ln p.1.lc) ∧ w'.cell? ⟨b, off + j * 6 + 5, none⟩ = some (.slice p.1.DA p.1.dn p.1.dc)) := fun w' hk => by
            have e : ∀ o, w'.cell? ⟨b, o, none⟩ = wr.cell? ⟨b, o, none⟩ := fun o => World.cell?_of_block (w := wr) (a := ⟨b, o, none⟩) (hk b (by omega))
            have e' : w'.cell? ⟨w.heap.size, 4, none⟩ = wr.cell? ⟨w.heap.size, 4, none⟩ := World.cell?_of_block (w := wr) (a := ⟨w.heap.size, 4, none⟩) (hk _ (Nat.le_refl _))
            exact ⟨e'.trans a3, (e _).trans y5, (e _).trans y0, (e _).trans y1, (e _).trans y2, (e _).trans y3, (e _).trans y4⟩
          refine wp_region_noPanic ?_
          refine wp_region_held_drew (S := (fun w' => w'.cell? ⟨w.heap.size, 4, none⟩ = some (.slice (some ⟨b, off, none⟩) cdn cdc) ∧ w'.cell? ⟨b, off + j * 6, none⟩ = some (.string p.2.s) ∧ w'.cell? ⟨b, off + j * 6 + 1, none⟩ = some (.int .i64 p.1.k) ∧ w'.cell? ⟨b, off + j * 6 + 2, none⟩ = some (.int .i64 p.1.n) ∧ w'.cell? ⟨b, off + j * 6 + 3, none⟩ = some (.string p.1.t) ∧ w'.cell? ⟨b, off + j * 6 + 4, none⟩ = some (.slice p.1.LA p.1.ln p.1.lc) ∧ w'.cell? ⟨b, off + j * 6 + 5, none⟩ = some (.slice p.1.DA p.1.dn p.1.dc))) (by kernel_rfl) ?_ (fun hHeld => ?_)
          · (try dsimp only); exact KC.out _ (fun g hg => rfl)
          refine wpAnyH_take (i := 0) (v := ?_) (take_at rfl) (by kernel_rfl) (by kernel_rfl) (by kernel_rfl) (fun _ _ _ h => h) (Or.inl ⟨by rfl, ?_⟩) (by assumption) ?_
          rotate_left
          · intro w' hSw; (try dsimp only at hSw); go_simp; (try with_reducible rfl)
          (try simp only [Act.put, List.setIfInBounds_toArray, List.set_cons_zero, List.set_cons_succ])
          refine wpAnyH_take (i := 2) (v := ?_) (take_at rfl) (by kernel_rfl) (by kernel_rfl) (by kernel_rfl) (fun _ _ _ h => h) (Or.inl ⟨by rfl, ?_⟩) (by assumption) ?_
          rotate_left
          · intro w' hSw; (try dsimp only at hSw); go_simp; (try with_reducible rfl)
          (try simp only [Act.put, List.setIfInBounds_toArray, List.set_cons_zero, List.set_cons_succ])
          refine wpAnyH_take (i := 3) (v := ?_) (take_at rfl) (by kernel_rfl) (by kernel_rfl) (by kernel_rfl) (fun _ _ _ h => h) (Or.inl ⟨by rfl, ?_⟩) (by assumption) ?_
          rotate_left
          · intro w' hSw; (try dsimp only at hSw); go_simp; (try with_reducible rfl)
          (try simp only [Act.put, List.setIfInBounds_toArray, List.set_cons_zero, List.set_cons_succ])
          refine wpAnyH_take (i := 4) (v := ?_) (take_at rfl) (by kernel_rfl) (by kernel_rfl) (by kernel_rfl) (fun _ _ _ h => h) (Or.inl ⟨by rfl, ?_⟩) (by assumption) ?_
          rotate_left
          · intro w' hSw; (try dsimp only at hSw); go_simp; (try with_reducible rfl)
          (try simp only [Act.put, List.setIfInBounds_toArray, List.set_cons_zero, List.set_cons_succ])
          refine wpAnyH_take (i := 5) (v := ?_) (take_at rfl) (by kernel_rfl) (by kernel_rfl) (by kernel_rfl) (fun _ _ _ h => h) (Or.inl ⟨by rfl, ?_⟩) (by assumption) ?_
          rotate_left
          · intro w' hSw; (try dsimp only at hSw); go_simp; (try with_reducible rfl)
          (try simp only [Act.put, List.setIfInBounds_toArray, List.set_cons_zero, List.set_cons_succ])
          refine wpAnyH_take (i := 6) (v := ?_) (take_at rfl) (by kernel_rfl) (by kernel_rfl) (by kernel_rfl) (fun _ _ _ h => h) (Or.inl ⟨by rfl, ?_⟩) (by assumption) ?_
          rotate_left
          · intro w' hSw; (try dsimp only at hSw); go_simp; (try with_reducible rfl)
          (try simp only [Act.put, List.setIfInBounds_toArray, List.set_cons_zero, List.set_cons_succ])
          refine wpAnyH_take (i := 7) (v := ?_) (take_at rfl) (by kernel_rfl) (by kernel_rfl) (by kernel_rfl) (fun _ _ _ h => h) (Or.inl ⟨by rfl, ?_⟩) (by assumption) ?_
          rotate_left
          · intro w' hSw; (try dsimp only at hSw); go_simp; (try with_reducible rfl)
          (try simp only [Act.put, List.setIfInBounds_toArray, List.set_cons_zero, List.set_cons_succ])
          refine wpAnyH_take (i := 8) (v := ?_) (take_at rfl) (by kernel_rfl) (by kernel_rfl) (by kernel_rfl) (fun _ _ _ h => h) (Or.inl ⟨by rfl, ?_⟩) (by assumption) ?_
          rotate_left
          · intro w' hSw; (try dsimp only at hSw); go_simp; (try with_reducible rfl)
          (try simp only [Act.put, List.setIfInBounds_toArray, List.set_cons_zero, List.set_cons_succ])
          refine wpAnyH_take (i := 9) (v := ?_) (take_at rfl) (by kernel_rfl) (by kernel_rfl) (by kernel_rfl) (fun _ _ _ h => h) (Or.inl ⟨by rfl, ?_⟩) (by assumption) ?_
          rotate_left
          · intro w' hSw; (try dsimp only at hSw); go_simp; (try with_reducible rfl)
          (try simp only [Act.put, List.setIfInBounds_toArray, List.set_cons_zero, List.set_cons_succ])
          refine wpAnyH_take (i := 10) (v := ?_) (take_at rfl) (by kernel_rfl) (by kernel_rfl) (by kernel_rfl) (fun _ _ _ h => h) (Or.inl ⟨by rfl, ?_⟩) (by assumption) ?_
          rotate_left
          · intro w' hSw; (try dsimp only at hSw); go_simp; (try with_reducible rfl)
          (try simp only [Act.put, List.setIfInBounds_toArray, List.set_cons_zero, List.set_cons_succ])
          refine wpAnyH_take (i := 11) (v := ?_) (take_at rfl) (by kernel_rfl) (by kernel_rfl) (by kernel_rfl) (fun _ _ _ h => h) (Or.inl ⟨by rfl, ?_⟩) (by assumption) ?_
          rotate_left
          · intro w' hSw; (try dsimp only at hSw); go_simp; (try with_reducible rfl)
          (try simp only [Act.put, List.setIfInBounds_toArray, List.set_cons_zero, List.set_cons_succ])
          refine wpAnyH_take (i := 12) (v := ?_) (take_at rfl) (by kernel_rfl) (by kernel_rfl) (by kernel_rfl) (fun _ _ _ h => h) (Or.inl ⟨by rfl, ?_⟩) (by assumption) ?_
          rotate_left
          · intro w' hSw; (try dsimp only at hSw); go_simp; (try with_reducible rfl)
          (try simp only [Act.put, List.setIfInBounds_toArray, List.set_cons_zero, List.set_cons_succ])
          refine wpAnyH_take (i := 13) (v := ?_) (take_at rfl) (by kernel_rfl) (by kernel_rfl) (by kernel_rfl) (fun _ _ _ h => h) (Or.inl ⟨by rfl, ?_⟩) (by assumption) ?_
          rotate_left
          · intro w' hSw; (try dsimp only at hSw); go_simp; (try with_reducible rfl)
          (try simp only [Act.put, List.setIfInBounds_toArray, List.set_cons_zero, List.set_cons_succ])
          refine wpAnyH_ready (rs := [1, 14]) (by kernel_rfl) (by simp) ?_
          refine AllReadyH.cons (take_at rfl) (fun K hK => ?_) (AllReadyH.cons (take_at rfl) (fun K hK => ?_) AllReadyH.nil)
          · go_simp
            refine hK.out _ _ ?_ (fun hHeld2 => ?_)
            · (try dsimp only); exact KC.out _ (fun g hg => rfl)
            clear hK K hHeld
            have hHeld := hHeld2
            clear hHeld2
            (try simp only [Act.put, List.setIfInBounds_toArray, List.set_cons_zero, List.set_cons_succ])
            refine wpAnyH_ready (rs := [14]) (by kernel_rfl) (by simp) ?_
            refine AllReadyH.cons (take_at rfl) (fun K hK => ?_) AllReadyH.nil
            · go_simp
              refine (IHD.out p.2 (List.mem_of_getElem? HY.out) p.1 _ (R2.out.drewN 1)).mono ?_
              rintro e3 w3 ⟨c2, rfl, hcl2, hb3⟩
              replace hb3 : Below wr.heap.size wr w3 := hb3.undrewN
              replace hcl2 : RV (fun b => wr.heap.size ≤ b) w3 c2 p.2.v := hcl2
              have s0 := (hb3.cell (p := ⟨w.heap.size + 1 + 1, 4, none⟩) J2.out.b2.lt).trans q3
              have l3 : w.heap.size + 1 + 1 < w3.heap.size := (J2.out.step hb3).b2.lt
              have HC3 := Lib.hid hcl2
              have HB3 := Lib.hid hb3
              clear hcl2 hb3
              (try go_wp2_with fail)
              refine hK.out _ _ ?_ (fun hHeld2 => ?_)
              · (try dsimp only); exact KC.out _ (fun g hg => HB3.out.block g (by omega))
              clear hK K hHeld
              have hHeld := hHeld2
              clear hHeld2
              (try simp only [Act.put, List.setIfInBounds_toArray, List.set_cons_zero, List.set_cons_succ])
              refine wpAnyH_take (i := 15) (v := ?_) (take_at rfl) (by kernel_rfl) (by kernel_rfl) (by kernel_rfl) (fun _ _ _ h => h) (Or.inl ⟨by rfl, ?_⟩) (by assumption) ?_
              rotate_left
              · intro w' hSw; (try dsimp only at hSw); go_simp; (try with_reducible rfl)
              (try simp only [Act.put, List.setIfInBounds_toArray, List.set_cons_zero, List.set_cons_succ])
              refine wpAnyH_ready (rs := [16]) (by kernel_rfl) (by simp) ?_
              refine AllReadyH.cons (take_at rfl) (fun K hK => ?_) AllReadyH.nil
              · go_simp
                refine hK.out _ _ ?_ (fun hHeld2 => ?_)
                · (try dsimp only); exact KC.out _ (fun g hg => (Below.heap_alloc _ _ g (by omega)).trans (HB3.out.block g (by omega)))
                clear hK K hHeld
                have hHeld := hHeld2
                clear hHeld2
                (try simp only [Act.put, List.setIfInBounds_toArray, List.set_cons_zero, List.set_cons_succ])
                refine wpAnyH_ready (rs := [17]) (by kernel_rfl) (by simp) ?_
                refine AllReadyH.cons (take_at rfl) (fun K hK => ?_) AllReadyH.nil
                · refine step_append_any _ rfl (.tmp 39) (.tmp 54) 23 rfl (w.heap.size + 3) 42 j0 (.agg (#[.string ByteArray.empty] ++ VC.zero.arr)) 6 96 Tryd.underlying23 hj0 hy0 hy1 hy2 rfl (by decide) (.slice B j cap') j (flat recF fs) (by simp [Act.eval]) ((own_step J2.out.own HB3.out).alloc _) (w3.heap.size + 1) (some ⟨w3.heap.size, 0, none⟩) 1 1 (recF (c2, p.2)) (by simp [Act.eval]) ⟨rfl, fun _ => ⟨_, rfl, by simp, news_at _ _ _⟩⟩ (recF_one _) (by simp only [maxLen]; omega) (by omega) (by simp; have := (J2.out.step HB3.out).b2.lt; omega) ?_
                  intro v' w4 hown4 hgr hat
                  obtain ⟨A4, cap4, hv4, hle4⟩ := own_slice hown4
                  rw [hv4]
                  have f2 : w4.cell? ⟨w.heap.size + 1 + 1, 4, none⟩ = some (.slice B j cap') := gr_cell hgr s0 hs
                  have z2 : w4.frozen? ⟨w.heap.size + 1 + 1, 4, none⟩ = false := (gr_frozen hgr (J2.out.step HB3.out).b2.lt hs).trans ((J2.out.step HB3.out).b2.frozen 4)
                  have hk4 : ∀ g, g ≤ w.heap.size → w4.heap[g]? = wr.heap[g]? := fun g hg => by
                    rw [hgr.block g (by simp; omega) (fun e => by have := own_ge J2.out.own g e.symm; omega), Below.heap_alloc _ _ g (by omega)]
                    exact HB3.out.block g (by omega)
                  refine hK.out _ _ ?_ (fun hHeld2 => ?_)
                  · (try dsimp only); exact KC.out _ hk4
                  clear hK K hHeld
                  have hHeld := hHeld2
                  clear hHeld2
                  (try simp only [Act.put, List.setIfInBounds_toArray, List.set_cons_zero, List.set_cons_succ])
                  refine wpAnyH_take (i := 18) (v := ?_) (take_at rfl) (by kernel_rfl) (by kernel_rfl) (by kernel_rfl) (fun _ _ _ h => h) (Or.inl ⟨by rfl, ?_⟩) (by assumption) ?_
                  rotate_left
                  · intro w' hSw; (try dsimp only at hSw); go_simp; (try with_reducible rfl)
                  (try simp only [Act.put, List.setIfInBounds_toArray, List.set_cons_zero, List.set_cons_succ])
                  refine wpAnyH_ready (rs := [19]) (by kernel_rfl) (by simp) ?_
                  refine AllReadyH.cons (take_at rfl) (fun K hK => ?_) AllReadyH.nil
                  · go_simp
                    refine hK.out _ _ ?_ (fun hHeld2 => ?_)
                    · (try dsimp only); exact KC.out _ (fun g hg => by rw [Below.heap_setCell _ _ _ _ (by show g ≠ w.heap.size + 1 + 1; omega)]; exact hk4 g hg)
                    clear hK K hHeld
                    have hHeld := hHeld2
                    clear hHeld2
                    (try simp only [Act.put, List.setIfInBounds_toArray, List.set_cons_zero, List.set_cons_succ])
                    refine wpAnyH_done (by kernel_rfl) ?_ _
                    refine NoPanic.normal ?_
                    have HI := Lib.hid ((J2.out.step HB3.out).next HY.out HNS.out (HC3.out.mono fun q hq => ⟨by have := J2.out.b2.lt; omega, fun e => by have := own_lt J2.out.own e; omega⟩) hgr (by rw [← hv4]; exact hat) (by rw [← hv4]; exact hown4))
                    clear hHeld KC hk4 f2 z2 s0 q3 a3 y0 y1 y2 y3 y4 y5 hgr hat hown4 hv4 J2 R2 HB3 HC3 l3 hs i0' i1' hbd
                    generalize w4.setCell ⟨w.heap.size + 1 + 1, 4, none⟩ (.slice A4 (j + 1) cap4) = w5 at *
                    go_wp2_with fail
                    go_roundw
                    case rel => exact ⟨j + 1, A4, cap4, _, by omega, by go_num, HI.out⟩
                    case measure => simp [intOf]; omega
          · go_simp
            refine (IHD.out p.2 (List.mem_of_getElem? HY.out) p.1 _ (R2.out.drewN 1)).mono ?_
            rintro e3 w3 ⟨c2, rfl, hcl2, hb3⟩
            replace hb3 : Below wr.heap.size wr w3 := hb3.undrewN
            replace hcl2 : RV (fun b => wr.heap.size ≤ b) w3 c2 p.2.v := hcl2
            have s0 := (hb3.cell (p := ⟨w.heap.size + 1 + 1, 4, none⟩) J2.out.b2.lt).trans q3
            have l3 : w.heap.size + 1 + 1 < w3.heap.size := (J2.out.step hb3).b2.lt
            have HC3 := Lib.hid hcl2
            have HB3 := Lib.hid hb3
            clear hcl2 hb3
            (try go_wp2_with fail)
            refine hK.out _ _ ?_ (fun hHeld2 => ?_)
            · (try dsimp only); exact KC.out _ (fun g hg => HB3.out.block g (by omega))
            clear hK K hHeld
            have hHeld := hHeld2
            clear hHeld2
            (try simp only [Act.put, List.setIfInBounds_toArray, List.set_cons_zero, List.set_cons_succ])
            refine wpAnyH_take (i := 15) (v := ?_) (take_at rfl) (by kernel_rfl) (by kernel_rfl) (by kernel_rfl) (fun _ _ _ h => h) (Or.inl ⟨by rfl, ?_⟩) (by assumption) ?_
            rotate_left
            · intro w' hSw; (try dsimp only at hSw); go_simp; (try with_reducible rfl)
            (try simp only [Act.put, List.setIfInBounds_toArray, List.set_cons_zero, List.set_cons_succ])
            refine wpAnyH_ready (rs := [1, 16]) (by kernel_rfl) (by simp) ?_
            refine AllReadyH.cons (take_at rfl) (fun K hK => ?_) (AllReadyH.cons (take_at rfl) (fun K hK => ?_) AllReadyH.nil)
            · go_simp
              refine hK.out _ _ ?_ (fun hHeld2 => ?_)
              · (try dsimp only); exact KC.out _ (fun g hg => HB3.out.block g (by omega))
              clear hK K hHeld
              have hHeld := hHeld2
              clear hHeld2
              (try simp only [Act.put, List.setIfInBounds_toArray, List.set_cons_zero, List.set_cons_succ])
              refine wpAnyH_ready (rs := [16]) (by kernel_rfl) (by simp) ?_
              refine AllReadyH.cons (take_at rfl) (fun K hK => ?_) AllReadyH.nil
              · go_simp
                refine hK.out _ _ ?_ (fun hHeld2 => ?_)
                · (try dsimp only); exact KC.out _ (fun g hg => (Below.heap_alloc _ _ g (by omega)).trans (HB3.out.block g (by omega)))
                clear hK K hHeld
                have hHeld := hHeld2
                clear hHeld2
                (try simp only [Act.put, List.setIfInBounds_toArray, List.set_cons_zero, List.set_cons_succ])
                refine wpAnyH_ready (rs := [17]) (by kernel_rfl) (by simp) ?_
                refine AllReadyH.cons (take_at rfl) (fun K hK => ?_) AllReadyH.nil
                · refine step_append_any _ rfl (.tmp 39) (.tmp 54) 23 rfl (w.heap.size + 3) 42 j0 (.agg (#[.string ByteArray.empty] ++ VC.zero.arr)) 6 96 Tryd.underlying23 hj0 hy0 hy1 hy2 rfl (by decide) (.slice B j cap') j (flat recF fs) (by simp [Act.eval]) ((own_step J2.out.own HB3.out).alloc _) (w3.heap.size + 1) (some ⟨w3.heap.size, 0, none⟩) 1 1 (recF (c2, p.2)) (by simp [Act.eval]) ⟨rfl, fun _ => ⟨_, rfl, by simp, news_at _ _ _⟩⟩ (recF_one _) (by simp only [maxLen]; omega) (by omega) (by simp; have := (J2.out.step HB3.out).b2.lt; omega) ?_
                  intro v' w4 hown4 hgr hat
                  obtain ⟨A4, cap4, hv4, hle4⟩ := own_slice hown4
                  rw [hv4]
                  have f2 : w4.cell? ⟨w.heap.size + 1 + 1, 4, none⟩ = some (.slice B j cap') := gr_cell hgr s0 hs
                  have z2 : w4.frozen? ⟨w.heap.size + 1 + 1, 4, none⟩ = false := (gr_frozen hgr (J2.out.step HB3.out).b2.lt hs).trans ((J2.out.step HB3.out).b2.frozen 4)
                  have hk4 : ∀ g, g ≤ w.heap.size → w4.heap[g]? = wr.heap[g]? := fun g hg => by
                    rw [hgr.block g (by simp; omega) (fun e => by have := own_ge J2.out.own g e.symm; omega), Below.heap_alloc _ _ g (by omega)]
                    exact HB3.out.block g (by omega)
                  refine hK.out _ _ ?_ (fun hHeld2 => ?_)
                  · (try dsimp only); exact KC.out _ hk4
                  clear hK K hHeld
                  have hHeld := hHeld2
                  clear hHeld2
                  (try simp only [Act.put, List.setIfInBounds_toArray, List.set_cons_zero, List.set_cons_succ])
                  refine wpAnyH_take (i := 18) (v := ?_) (take_at rfl) (by kernel_rfl) (by kernel_rfl) (by kernel_rfl) (fun _ _ _ h => h) (Or.inl ⟨by rfl, ?_⟩) (by assumption) ?_
                  rotate_left
                  · intro w' hSw; (try dsimp only at hSw); go_simp; (try with_reducible rfl)
                  (try simp only [Act.put, List.setIfInBounds_toArray, List.set_cons_zero, List.set_cons_succ])
                  refine wpAnyH_ready (rs := [19]) (by kernel_rfl) (by simp) ?_
                  refine AllReadyH.cons (take_at rfl) (fun K hK => ?_) AllReadyH.nil
                  · go_simp
                    refine hK.out _ _ ?_ (fun hHeld2 => ?_)
                    · (try dsimp only); exact KC.out _ (fun g hg => by rw [Below.heap_setCell _ _ _ _ (by show g ≠ w.heap.size + 1 + 1; omega)]; exact hk4 g hg)
                    clear hK K hHeld
                    have hHeld := hHeld2
                    clear hHeld2
                    (try simp only [Act.put, List.setIfInBounds_toArray, List.set_cons_zero, List.set_cons_succ])
                    refine wpAnyH_done (by kernel_rfl) ?_ _
                    refine NoPanic.normal ?_
                    have HI := Lib.hid ((J2.out.step HB3.out).next HY.out HNS.out (HC3.out.mono fun q hq => ⟨by have := J2.out.b2.lt; omega, fun e => by have := own_lt J2.out.own e; omega⟩) hgr (by rw [← hv4]; exact hat) (by rw [← hv4]; exact hown4))
                    clear hHeld KC hk4 f2 z2 s0 q3 a3 y0 y1 y2 y3 y4 y5 hgr hat hown4 hv4 J2 R2 HB3 HC3 l3 hs i0' i1' hbd
                    generalize w4.setCell ⟨w.heap.size + 1 + 1, 4, none⟩ (.slice A4 (j + 1) cap4) = w5 at *
                    go_wp2_with fail
                    go_roundw
                    case rel => exact ⟨j + 1, A4, cap4, _, by omega, by go_num, HI.out⟩
                    case measure => simp [intOf]; omega
            · go_simp
              refine hK.out _ _ ?_ (fun hHeld2 => ?_)
              · (try dsimp only); exact KC.out _ (fun g hg => (Below.heap_alloc _ _ g (by omega)).trans (HB3.out.block g (by omega)))
              clear hK K hHeld
              have hHeld := hHeld2
              clear hHeld2
              (try simp only [Act.put, List.setIfInBounds_toArray, List.set_cons_zero, List.set_cons_succ])
              refine wpAnyH_ready (rs := [1]) (by kernel_rfl) (by simp) ?_
              refine AllReadyH.cons (take_at rfl) (fun K hK => ?_) AllReadyH.nil
              · go_simp
                refine hK.out _ _ ?_ (fun hHeld2 => ?_)
                · (try dsimp only); exact KC.out _ (fun g hg => (Below.heap_alloc _ _ g (by omega)).trans (HB3.out.block g (by omega)))
                clear hK K hHeld
                have hHeld := hHeld2
                clear hHeld2
                (try simp only [Act.put, List.setIfInBounds_toArray, List.set_cons_zero, List.set_cons_succ])
                refine wpAnyH_ready (rs := [17]) (by kernel_rfl) (by simp) ?_
                refine AllReadyH.cons (take_at rfl) (fun K hK => ?_) AllReadyH.nil
                · refine step_append_any _ rfl (.tmp 39) (.tmp 54) 23 rfl (w.heap.size + 3) 42 j0 (.agg (#[.string ByteArray.empty] ++ VC.zero.arr)) 6 96 Tryd.underlying23 hj0 hy0 hy1 hy2 rfl (by decide) (.slice B j cap') j (flat recF fs) (by simp [Act.eval]) ((own_step J2.out.own HB3.out).alloc _) (w3.heap.size + 1) (some ⟨w3.heap.size, 0, none⟩) 1 1 (recF (c2, p.2)) (by simp [Act.eval]) ⟨rfl, fun _ => ⟨_, rfl, by simp, news_at _ _ _⟩⟩ (recF_one _) (by simp only [maxLen]; omega) (by omega) (by simp; have := (J2.out.step HB3.out).b2.lt; omega) ?_
                  intro v' w4 hown4 hgr hat
                  obtain ⟨A4, cap4, hv4, hle4⟩ := own_slice hown4
                  rw [hv4]
                  have f2 : w4.cell? ⟨w.heap.size + 1 + 1, 4, none⟩ = some (.slice B j cap') := gr_cell hgr s0 hs
                  have z2 : w4.frozen? ⟨w.heap.size + 1 + 1, 4, none⟩ = false := (gr_frozen hgr (J2.out.step HB3.out).b2.lt hs).trans ((J2.out.step HB3.out).b2.frozen 4)
                  have hk4 : ∀ g, g ≤ w.heap.size → w4.heap[g]? = wr.heap[g]? := fun g hg => by
                    rw [hgr.block g (by simp; omega) (fun e => by have := own_ge J2.out.own g e.symm; omega), Below.heap_alloc _ _ g (by omega)]
                    exact HB3.out.block g (by omega)
                  refine hK.out _ _ ?_ (fun hHeld2 => ?_)
                  · (try dsimp only); exact KC.out _ hk4
                  clear hK K hHeld
                  have hHeld := hHeld2
                  clear hHeld2
                  (try simp only [Act.put, List.setIfInBounds_toArray, List.set_cons_zero, List.set_cons_succ])
                  refine wpAnyH_take (i := 18) (v := ?_) (take_at rfl) (by kernel_rfl) (by kernel_rfl) (by kernel_rfl) (fun _ _ _ h => h) (Or.inl ⟨by rfl, ?_⟩) (by assumption) ?_
                  rotate_left
                  · intro w' hSw; (try dsimp only at hSw); go_simp; (try with_reducible rfl)
                  (try simp only [Act.put, List.setIfInBounds_toArray, List.set_cons_zero, List.set_cons_succ])
                  refine wpAnyH_ready (rs := [19]) (by kernel_rfl) (by simp) ?_
                  refine AllReadyH.cons (take_at rfl) (fun K hK => ?_) AllReadyH.nil
                  · go_simp
                    refine hK.out _ _ ?_ (fun hHeld2 => ?_)
                    · (try dsimp only); exact KC.out _ (fun g hg => by rw [Below.heap_setCell _ _ _ _ (by show g ≠ w.heap.size + 1 + 1; omega)]; exact hk4 g hg)
                    clear hK K hHeld
                    have hHeld := hHeld2
                    clear hHeld2
                    (try simp only [Act.put, List.setIfInBounds_toArray, List.set_cons_zero, List.set_cons_succ])
                    refine wpAnyH_done (by kernel_rfl) ?_ _
                    refine NoPanic.normal ?_
                    have HI := Lib.hid ((J2.out.step HB3.out).next HY.out HNS.out (HC3.out.mono fun q hq => ⟨by have := J2.out.b2.lt; omega, fun e => by have := own_lt J2.out.own e; omega⟩) hgr (by rw [← hv4]; exact hat) (by rw [← hv4]; exact hown4))
                    clear hHeld KC hk4 f2 z2 s0 q3 a3 y0 y1 y2 y3 y4 y5 hgr hat hown4 hv4 J2 R2 HB3 HC3 l3 hs i0' i1' hbd
                    generalize w4.setCell ⟨w.heap.size + 1 + 1, 4, none⟩ (.slice A4 (j + 1) cap4) = w5 at *
                    go_wp2_with fail
                    go_roundw
                    case rel => exact ⟨j + 1, A4, cap4, _, by omega, by go_num, HI.out⟩
                    case measure => simp [intOf]; omega
        · have hjd : j = d.length := by have h2 := HDn.out; have h3 := congrArg List.length HF.out; rw [List.length_map] at h3; omega
          have HD := Lib.hid (CyD.done (x := .mk k n t l d) J.out H.out HPS.out hjd (by unfold reach; omega))
          obtain ⟨a0, a1, a2, a3, a4⟩ := VAt.of_blk J.out.b2
          obtain ⟨e0, e1, e2, e3, e4⟩ := VAt.of_blk J.out.b0
          obtain ⟨b0, b1, b2, b3, b4⟩ := VAt.of_blk J.out.b1
          have z := J.out.b1.frozen
          clear I hjd
          go_wp2_with fail
          have q := VAt.of_blk (J.out.b1.putV ⟨ck, cn, ct, A, i, cap, B, j, cap'⟩)
          exact bodyPost_ret (results_val rfl _ _ _ rfl _ ⟨ck, cn, ct, A, i, cap, B, j, cap'⟩ q) rfl HD.out

end Go.Proofs.YtckeccfbadlhhaaDoor
