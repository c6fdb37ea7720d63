/- Parts of the proof, joined: MgNote, ValRefCmp, MgRef, SortPure, SortTP. -/
import Derived.Test.YtlmmgjgkmbmgpaaGreatDoorEb18
import Derived.Test.YtlmmgjgkmbmgpaaGreatDoorEb19
import Derived.Test.YtlmmgjgkmbmgpaaGreatDoorEb11
import Derived.Test.YtlmmgjgkmbmgpaaGreatDoorEb1
import Derived.Deep.RegionHeld3
/- migrate.Copy and migrate.Note. Printed by gen_mgcopy.py. -/
namespace Go.Proofs.YtlmmgjgkmbmgpaaGreatDoor
open Go.RowKit
set_option linter.unusedSimpArgs false

theorem sizeV : (Tryz.prog.info? 46).map (·.size) = some 5 := by kernel_rfl
theorem Blk.cellL {w : World} {g : Nat} {t : TypeId} {l : List Value} (h : Blk w g t l.toArray) {i : Nat} {u : Value} (e : l[i]? = some u) : w.cell? ⟨g, i, none⟩ = some u := by
  rw [h.cell, List.getElem?_toArray]
  exact e
noncomputable def copyL (R : Ro) (sp lo hi : ByteArray) (l : List Val) : List Wt := (l.filter (insD R lo hi)).map (putW sp)
theorem copyL_snoc (R : Ro) (sp lo hi : ByteArray) (l : List Val) (x : Val) : copyL R sp lo hi (l ++ [x]) = copyL R sp lo hi l ++ (if insD R lo hi x = true then [putW sp x] else []) := by
  unfold copyL
  rw [List.filter_append, List.map_append]
  congr 1
  cases h : insD R lo hi x <;> simp [h]
theorem copyL_len (R : Ro) (sp lo hi : ByteArray) (l : List Val) : (copyL R sp lo hi l).length ≤ l.length := by
  unfold copyL
  rw [List.length_map]
  exact List.length_filter_le _ _
def MvOk (w : World) (M : Mv) (e : Ending) (w' : World) : Prop := ∃ mb : MA, e = .returned (.tuple #[mval mb M, .int .i64 0]) ∧ MR w' mb M ∧ Below w.heap.size w w'

set_option maxRecDepth 100000 in
set_option maxHeartbeats 8000000 in
theorem mgcopy_any (M : Mv) (R : Ro) (a : RA) (ps : List PV) (DA : Option Addr) (dn dc : Nat) (w : World) (hT : Tabs w) (h : RR w a R) (h8 : R.ks.length ≤ 8) (hd : SL (fun _ => True) w DA dn dc ps) (hz : dn ≤ 1000) (hsp : M.sp.size ≤ reach) (hst : M.st = 1) (hcp : M.cp = []) (hch : M.ch = []) :
    Calls Tryz.prog 11 #[mval MA.zero M, rval a R, .slice DA dn dc] w (MvOk w ⟨M.sp, M.lo, M.hi, M.fr, M.tt, 2, copyL R M.sp M.lo M.hi (ps.map Prod.snd), []⟩) := by
  obtain ⟨i0, hi0, hz0, hz1, hz2⟩ := info_parts info_write
  obtain ⟨sp, lo, hi, fr, tt, st, cp, ch⟩ := M
  simp only at hsp hst hcp hch ⊢
  subst hst hcp hch
  have HT := Lib.hid hT
  have HR := Lib.hid h
  have H8 := Lib.hid h8
  have HD := Lib.hid hd
  have HZ := Lib.hid hz
  have HSP := Lib.hid hsp
  have HDL : Hid (dn = ps.length) := hd.sr.ln
  clear hT h h8 hd hsp
  obtain ⟨wa, hwa⟩ : ∃ wa, ((w.alloc (Obj.cells (marr MA.zero ⟨sp, lo, hi, fr, tt, 1, [], []⟩) 37)).alloc (Obj.cells (rarr a R) 27)).alloc (Obj.cells (marr MA.zero Mv.zero) 37) = wa := ⟨_, rfl⟩
  have B0 : Hid (Blk wa w.heap.size 37 (marr MA.zero ⟨sp, lo, hi, fr, tt, 1, [], []⟩)) := by rw [← hwa]; exact ((Blk.new_at rfl).alloc _).alloc _
  have BR : Hid (Blk wa (w.heap.size + 1) 27 (rarr a R)) := by rw [← hwa]; exact (Blk.new_at (by simp)).alloc _
  have BZ : Hid (Blk wa (w.heap.size + 2) 37 (marr MA.zero Mv.zero)) := by rw [← hwa]; exact Blk.new_at (by simp)
  have BE : Hid (Below w.heap.size w wa) := by rw [← hwa]; exact (((Below.refl _ _).alloc (Nat.le_refl _) _).alloc (by simp) _).alloc (by simp; omega) _
  have HW3 : Hid (wa.heap.size = w.heap.size + 3) := by rw [← hwa]; simp [Hid]
  have HWA := Lib.hid hwa
  clear hwa
  go_enter Tryz.func11, Tryz.ntmps11
  go_upto_region 1 with fail
  change Code.wp _ _ _ _ (((w.alloc (Obj.cells (marr MA.zero ⟨sp, lo, hi, fr, tt, 1, [], []⟩) 37)).alloc (Obj.cells (rarr a R) 27)).alloc (Obj.cells (marr MA.zero Mv.zero) 37))
  rw [HWA.out]
  clear HWA
  have q5 : wa.cell? ⟨w.heap.size, 5, none⟩ = some (.int .i64 1) := B0.out.cell 5
  have HCM := Lib.hid (copyMove_any ⟨sp, lo, hi, fr, tt, 1, [], []⟩ MA.zero wa ⟨HSP.out, ⟨[], rfl, WS.nil⟩, ⟨[], rfl, WS.nil⟩⟩ (Nat.zero_le _) (Nat.zero_le _))
  go_wp2_with (refine wpList_load_row rfl 37 _ rfl (w.heap.size) rfl _ _ _ _ B0.out Tryz.underlying37 rfl (by rw [sizeM]; rfl) ?_)
  refine HCM.out.mono ?_
  rintro e w1 ⟨⟨A1, n1, c1, A2, n2, c2⟩, ps0, qs1, rfl, hmo, hb⟩
  have hps0 : ps0 = [] := List.map_eq_nil_iff.1 hmo.cp
  have hqs1 : qs1 = [] := List.map_eq_nil_iff.1 hmo.ch
  subst hps0 hqs1
  have hn1 : n1 = 0 := hmo.cn
  subst hn1
  have HMO := Lib.hid hmo
  have C0 := Lib.hid (B0.out.step hb)
  have CR := Lib.hid (BR.out.step hb)
  have CZ := Lib.hid (BZ.out.step hb)
  have CE := Lib.hid (BE.out.step' hb)
  clear hmo hb HCM q5 B0 BR BZ BE
  go_upto_region 4 with (refine wpList_store_row rfl 37 _ _ rfl (w.heap.size) (marr ⟨A1, 0, c1, A2, n2, c2⟩ ⟨sp, lo, hi, fr, tt, 1, [], []⟩) rfl rfl 37 _ C0.out (by rw [sizeM]; rfl) rfl (marr_all _ _) ?_)
  have D0 : Hid (Blk (w1.setRow w.heap.size (marr ⟨A1, 0, c1, A2, n2, c2⟩ ⟨sp, lo, hi, fr, tt, 1, [], []⟩)) w.heap.size 37 #[.string sp, .string lo, .string hi, .int .i64 fr, .int .i64 tt, .int .i64 1, .slice A1 ([] : List PW).length c1, .slice A2 n2 c2]) := Blk.row C0.out _
  have DR := Lib.hid (Blk.row_far CR.out (by omega : w.heap.size + 1 ≠ w.heap.size) (marr ⟨A1, 0, c1, A2, n2, c2⟩ ⟨sp, lo, hi, fr, tt, 1, [], []⟩))
  have DZ := Lib.hid (Blk.row_far CZ.out (by omega : w.heap.size + 2 ≠ w.heap.size) (marr ⟨A1, 0, c1, A2, n2, c2⟩ ⟨sp, lo, hi, fr, tt, 1, [], []⟩))
  have DE := Lib.hid (below_row CE.out (Nat.le_refl _) (marr ⟨A1, 0, c1, A2, n2, c2⟩ ⟨sp, lo, hi, fr, tt, 1, [], []⟩))
  have DMO : Hid (MO wa.heap.size ⟨A1, ([] : List PW).length, c1, A2, n2, c2⟩ ⟨sp, lo, hi, fr, tt, 1, [], []⟩ [] [] (w1.setRow w.heap.size (marr ⟨A1, 0, c1, A2, n2, c2⟩ ⟨sp, lo, hi, fr, tt, 1, [], []⟩))) := HMO.out.keep fun b hb _ => setRow_other _ _ _ _ (by have := HW3.out; omega)
  clear C0 CR CZ CE HMO
  generalize w1.setRow w.heap.size (marr ⟨A1, 0, c1, A2, n2, c2⟩ ⟨sp, lo, hi, fr, tt, 1, [], []⟩) = w2 at *
  go_wp2_with fail
  go_loopw [9, 18] (fun _ u18 wr => ∃ (i : Nat) (A1 : Option Addr) (c1 : Nat) (ps1 : List PW), i ≤ dn ∧ u18 = .int .i64 i ∧ Blk wr w.heap.size 37 #[.string sp, .string lo, .string hi, .int .i64 fr, .int .i64 tt, .int .i64 1, .slice A1 ps1.length c1, .slice A2 n2 c2] ∧ Blk wr (w.heap.size + 1) 27 (rarr a R) ∧ Blk wr (w.heap.size + 2) 37 (marr MA.zero Mv.zero) ∧
    MO wa.heap.size ⟨A1, ps1.length, c1, A2, n2, c2⟩ ⟨sp, lo, hi, fr, tt, 1, copyL R sp lo hi ((ps.map Prod.snd).take i), []⟩ ps1 [] wr ∧ Below w.heap.size w wr) (fun _ u18 _ => dn - (intOf u18).toNat)
  case atStart => exact ⟨0, A1, c1, [], Nat.zero_le _, rfl, D0.out, DR.out, DZ.out, DMO.out, DE.out⟩
  case round =>
    clear D0 DR DZ DE DMO
    obtain ⟨i, A1, c1, ps1, hile, rfl, f0, fr2, fz, fmo, fe⟩ := hrel
    have F0 := Lib.hid f0
    have FR := Lib.hid fr2
    have FZ := Lib.hid fz
    have FMO := Lib.hid fmo
    have FE := Lib.hid fe
    clear f0 fr2 fz fmo fe
    by_cases hlt : i < dn
    · obtain ⟨p, hp⟩ : ∃ p, ps[i]? = some p := ⟨_, List.getElem?_eq_getElem (by have := HDL.out; omega)⟩
      obtain ⟨b, off, rfl, _, hu, hr⟩ := (HD.out.step FE.out).vat hp
      have HRX := Lib.hid hr
      have HCI : Hid (copyL R sp lo hi ((ps.map Prod.snd).take (i + 1)) = copyL R sp lo hi ((ps.map Prod.snd).take i) ++ (if insD R lo hi p.2 = true then [putW sp p.2] else [])) := by
        rw [Hid, take_snoc' (show (ps.map Prod.snd)[i]? = some p.2 by rw [List.getElem?_map, hp]; rfl), copyL_snoc]
      obtain ⟨a0, a1, a2, a3, a4⟩ := hu
      have hpl : Hid (ps1.length ≤ 1000) := by
        have h1 := congrArg List.length FMO.out.cp
        have h2 := copyL_len R sp lo hi ((ps.map Prod.snd).take i)
        rw [List.length_map] at h1
        rw [List.length_take] at h2
        simp only at h1
        unfold Hid
        omega
      have i0' : (0 : Int) ≤ (i : Int) := by omega
      have i1' : (i : Int) < (dn : Int) := by omega
      clear hr hp
      go_upto_region 7 with fail
      change Code.wp _ _ _ _ (wr.alloc (Obj.cells p.1.arr 46))
      have GV : Hid (Blk (wr.alloc (Obj.cells p.1.arr 46)) wr.heap.size 46 p.1.arr) := Blk.new_at rfl
      have G0 := Lib.hid (F0.out.alloc (Obj.cells p.1.arr 46))
      have GR := Lib.hid (FR.out.alloc (Obj.cells p.1.arr 46))
      have GZ := Lib.hid (FZ.out.alloc (Obj.cells p.1.arr 46))
      have GE := Lib.hid (FE.out.alloc FE.out.size (Obj.cells p.1.arr 46))
      have GMO := Lib.hid (FMO.out.step ((Below.refl wr.heap.size wr).alloc (Nat.le_refl _) (Obj.cells p.1.arr 46)))
      have GX := Lib.hid (HRX.out.alloc (Obj.cells p.1.arr 46))
      have HG9 : Hid (some wr.heap.size ≠ (Value.slice A1 ps1.length c1).ownBlock) := fun e => by have := own_lt FMO.out.oc e.symm; omega
      have HG8 : Hid (w.heap.size + 2 < wr.heap.size) := FZ.out.lt
      clear a0 a1 a2 a3 a4 F0 FR FZ FE FMO HRX
      generalize wr.alloc (Obj.cells p.1.arr 46) = wq at *
      generalize wr.heap.size = g9 at *
      have HIN := Lib.hid (inside_any ⟨sp, lo, hi, fr, tt, 1, [], []⟩ ⟨A1, ps1.length, c1, A2, n2, c2⟩ R a p.2 p.1 wq (HT.out.step GE.out) (HR.out.step GE.out) GX.out H8.out)
      obtain ⟨a0, a1, a2, a3, a4⟩ := VAt.of_blk GV.out
      simp only [Nat.zero_add] at a0 a1 a2 a3 a4
      go_wp2_with (first | (refine wpList_load_row rfl 37 _ rfl (w.heap.size) rfl _ _ _ _ G0.out Tryz.underlying37 rfl (by rw [sizeM]; rfl) ?_) | (refine wpList_load_row rfl 27 _ rfl (w.heap.size + 1) rfl _ _ _ _ GR.out Tryz.underlying27 rfl (by rw [sizeR]; rfl) ?_))
      refine HIN.out.mono ?_
      rintro e wb ⟨rfl, hb⟩
      have K0 := Lib.hid (G0.out.step hb)
      have KR := Lib.hid (GR.out.step hb)
      have KZ := Lib.hid (GZ.out.step hb)
      have KE := Lib.hid (GE.out.step' hb)
      have KV := Lib.hid (GV.out.step hb)
      have MOB := Lib.hid (GMO.out.step hb)
      have KX := Lib.hid (GX.out.step hb)
      clear hb a0 a1 a2 a3 a4 G0 GR GZ GE GV GMO GX HIN
      cases hin : insD R lo hi p.2
      · have HCL : Hid (copyL R sp lo hi ((ps.map Prod.snd).take (i + 1)) = copyL R sp lo hi ((ps.map Prod.snd).take i)) := by rw [Hid, HCI.out, hin]; simp
        clear hin
        go_wp2_with fail
        go_roundw
        case rel => exact ⟨i + 1, A1, c1, ps1, by omega, by go_num, K0.out, KR.out, KZ.out, by rw [HCL.out]; exact MOB.out, KE.out⟩
        case measure => simp [intOf]; omega
      · have HCL : Hid (copyL R sp lo hi ((ps.map Prod.snd).take (i + 1)) = copyL R sp lo hi ((ps.map Prod.snd).take i) ++ [putW sp p.2]) := by rw [Hid, HCI.out, hin]; simp
        clear hin HCI
        go_upto_region 8 with fail
        have B : Hid (Below wb.heap.size wb wb.drew) := Lib.hid ((Below.refl wb.heap.size wb).drew)
        have MVS : Hid (∀ w' : World, Below wb.heap.size wb w' → Blk w' w.heap.size 37 #[.string sp, .string lo, .string hi, .int .i64 fr, .int .i64 tt, .int .i64 1, .slice A1 ps1.length c1, .slice A2 n2 c2]) := Lib.hid fun w' hb => K0.out.step hb
        have KSS : Hid (∀ w' : World, Below wb.heap.size wb w' → Blk w' g9 46 p.1.arr) := Lib.hid fun w' hb => KV.out.step hb
        have SRX : Hid (∀ w' : World, Below wb.heap.size wb w' → RW w' p.1 p.2) := Lib.hid fun w' hb => KX.out.step hb
        have OWNT : Hid (∀ w' : World, Below wb.heap.size wb w' → w'.ownsRow wa.heap.size 68 78 (.slice A1 ps1.length c1) ps1.length (flat recW ps1)) := Lib.hid fun w' hb => own_step MOB.out.oc hb
        have HLEN : Hid (ps1.length ≤ 1000) := hpl
        have HBASE : Hid (wa.heap.size ≤ wb.heap.size) := by have h1 := KZ.out.lt; have h2 := HW3.out; unfold Hid; omega
        have HNB : Hid (w.heap.size + 2 < wa.heap.size) := by have h2 := HW3.out; unfold Hid; omega
        have hown0 : ∀ b, b < wa.heap.size → some b ≠ (Value.slice A1 ps1.length c1).ownBlock := fun b hb e => by have := own_ge MOB.out.oc b e.symm; omega
        have HNE0 : Hid (some w.heap.size ≠ (Value.slice A1 ps1.length c1).ownBlock) := hown0 _ (by have := HNB.out; omega)
        have FRC : Hid (∀ b, wb.heap.size ≤ b → (Value.slice A1 ps1.length c1).ownBlock ≠ some b) := Lib.hid fun b hb e => by have := own_lt MOB.out.oc e; omega
        have FRH : Hid (∀ b, wb.heap.size ≤ b → (Value.slice A2 n2 c2).ownBlock ≠ some b) := Lib.hid fun b hb e => by have := own_lt MOB.out.oh e; omega
        have KSA : Hid (∀ y2 y3 : World, Below wb.heap.size wb y2 → y2.grownBy y3 (Value.slice A1 ps1.length c1).ownBlock → Blk y3 g9 46 p.1.arr) := Lib.hid fun y2 y3 h2 hg => (KV.out.step h2).grown hg HG9.out
        have OTH : Hid (∀ y2 y3 : World, Below wb.heap.size wb y2 → y2.grownBy y3 (Value.slice A1 ps1.length c1).ownBlock → ∀ (k : Nat) (v : Value), Blk (y3.setCell ⟨w.heap.size, k, none⟩ v) g9 46 p.1.arr ∧ Blk (y3.setCell ⟨w.heap.size, k, none⟩ v) (w.heap.size + 1) 27 (rarr a R) ∧ Blk (y3.setCell ⟨w.heap.size, k, none⟩ v) (w.heap.size + 2) 37 (marr MA.zero Mv.zero) ∧ Below w.heap.size w (y3.setCell ⟨w.heap.size, k, none⟩ v)) := by
          refine Lib.hid fun y2 y3 h2 hg k v => ?_
          have h1 := HNB.out
          have h9 := HG8.out
          have e : ∀ {b : Nat} {t : TypeId} {cs : Array Value}, Blk wb b t cs → b ≠ w.heap.size → some b ≠ (Value.slice A1 ps1.length c1).ownBlock → Blk (y3.setCell ⟨w.heap.size, k, none⟩ v) b t cs := fun hB h1 h3 => ((hB.step h2).grown hg h3).far h1 v
          exact ⟨e KV.out (by omega) HG9.out, e KR.out (by omega) (hown0 _ (by omega)), e KZ.out (by omega) (hown0 _ (by omega)), ((KE.out.step' h2).grown hg (Nat.le_trans KE.out.size h2.size) (fun g e => by have := own_ge MOB.out.oc g e; omega)).setCell (Nat.le_refl _) v⟩
        clear hown0 K0 KR KZ KV KX
        refine wp_region_noPanic ?_
        refine wp_region_held_drew (S := (fun w' => Blk w' g9 46 p.1.arr)) (by kernel_rfl) ?_ (fun hHeld => ?_)
        · (try dsimp only); exact KSS.out _ B.out
        generalize wb.drew = v0 at *
        refine wpAnyH_take (i := 0) (v := ?_) (take_at rfl) (by kernel_rfl) (by kernel_rfl) (by kernel_rfl) (fun _ _ _ h => h) (Or.inl ⟨by rfl, ?_⟩) (by assumption) ?_
        rotate_left
        · intro w' hSw; (try dsimp only at hSw); go_simp; (try with_reducible rfl)
        (try simp only [Act.put, List.setIfInBounds_toArray, List.set_cons_zero, List.set_cons_succ])
        refine wpAnyH_take (i := 3) (v := .agg p.1.arr) (take_at rfl) (by kernel_rfl) (by kernel_rfl) (by kernel_rfl) (fun _ _ _ h => h) (Or.inl ⟨by rfl, ?_⟩) (by assumption) ?_
        · intro w' hSw; exact exec_row rfl rfl hSw Tryz.underlying46 rfl (by rw [sizeV]; rfl)
        (try simp only [Act.put, List.setIfInBounds_toArray, List.set_cons_zero, List.set_cons_succ])
        refine wpAnyH_ready (rs := [1, 2]) (by kernel_rfl) (by simp) ?_
        refine AllReadyH.cons (take_at rfl) (fun K hK => ?_) (AllReadyH.cons (take_at rfl) (fun K hK => ?_) AllReadyH.nil)
        · have q6 : v0.cell? ⟨w.heap.size, 6, none⟩ = some (.slice A1 ps1.length c1) := (MVS.out _ B.out).cell 6
          go_simp
          clear q6
          refine hK.out _ _ ?_ (fun hHeld2 => ?_)
          · (try dsimp only); exact KSS.out _ B.out
          clear hK K hHeld
          have hHeld := hHeld2
          clear hHeld2
          (try simp only [Act.put, List.setIfInBounds_toArray, List.set_cons_zero, List.set_cons_succ])
          refine wpAnyH_ready (rs := [2]) (by kernel_rfl) (by simp) ?_
          refine AllReadyH.cons (take_at rfl) (fun K hK => ?_) AllReadyH.nil
          refine wp_load_row 37 _ rfl w.heap.size rfl _ _ _ _ (MVS.out _ B.out) Tryz.underlying37 rfl (by rw [sizeM]; rfl) ?_
          refine hK.out _ _ ?_ (fun hHeld2 => ?_)
          · (try dsimp only); exact KSS.out _ B.out
          clear hK K hHeld
          have hHeld := hHeld2
          clear hHeld2
          (try simp only [Act.put, List.setIfInBounds_toArray, List.set_cons_zero, List.set_cons_succ])
          refine wpAnyH_ready (rs := [4]) (by kernel_rfl) (by simp) ?_
          refine AllReadyH.cons (take_at rfl) (fun K hK => ?_) AllReadyH.nil
          go_simp
          refine (put_any ⟨sp, lo, hi, fr, tt, 1, [], []⟩ ⟨A1, ps1.length, c1, A2, n2, c2⟩ p.2 p.1 v0 HSP.out (SRX.out _ B.out)).mono ?_
          rintro e3 y1 ⟨wc, rfl, hr, hb⟩
          have P1 := Lib.hid (hr.mono (G := fun b => wb.heap.size ≤ b) (fun b hb2 => Nat.le_trans B.out.size hb2))
          have B1 := Lib.hid (B.out.step' hb)
          clear hb hr
          (try go_wp2_with fail)
          refine hK.out _ _ ?_ (fun hHeld2 => ?_)
          · (try dsimp only); exact KSS.out _ B1.out
          clear hK K hHeld
          have hHeld := hHeld2
          clear hHeld2
          (try simp only [Act.put, List.setIfInBounds_toArray, List.set_cons_zero, List.set_cons_succ])
          refine wpAnyH_ready (rs := [5]) (by kernel_rfl) (by simp) ?_
          refine AllReadyH.cons (take_at rfl) (fun K hK => ?_) AllReadyH.nil
          refine wp_buildSlice 29 68 1 _ rfl (recC78 wc).toArray i0 _ Tryz.underlying29 hi0 hz0 (by rw [hz1]; decide) (by rw [hz1]; decide) (by rw [hz1]; exact build_write rfl) ?_
          have N2 : Hid (Blk (y1.alloc (Obj.cells (recC78 wc).toArray 68)) y1.heap.size 68 (recC78 wc).toArray) := Blk.new_at rfl
          have P2 := Lib.hid (P1.out.alloc (Obj.cells (recC78 wc).toArray 68))
          have B2 := Lib.hid (B1.out.alloc B1.out.size (Obj.cells (recC78 wc).toArray 68))
          generalize y1.alloc (Obj.cells (recC78 wc).toArray 68) = y2 at *
          generalize y1.heap.size = gn at *
          refine hK.out _ _ ?_ (fun hHeld2 => ?_)
          · (try dsimp only); exact KSS.out _ B2.out
          clear hK K hHeld
          have hHeld := hHeld2
          clear hHeld2
          (try simp only [Act.put, List.setIfInBounds_toArray, List.set_cons_zero, List.set_cons_succ])
          refine wpAnyH_ready (rs := [6]) (by kernel_rfl) (by simp) ?_
          refine AllReadyH.cons (take_at rfl) (fun K hK => ?_) AllReadyH.nil
          have O2 := Lib.hid (OWNT.out _ B2.out)
          refine wp_append_any y2 (.tmp 27) (.tmp 31) 29 rfl wa.heap.size 68 i0 _ 78 1168 Tryz.underlying29 hi0 hz0 hz1 hz2 rfl (by decide) (.slice A1 ps1.length c1) ps1.length (flat recW ps1) rfl O2.out y2.heap.size (some ⟨gn, 0, none⟩) 1 1 (recC78 wc) rfl (reads_one N2.out N2.out.lt) (recC78_one wc) (by unfold maxLen; have := HLEN.out; omega) (by have := HLEN.out; omega) (Nat.le_trans HBASE.out B2.out.size) ?_
          intro v5 y3 hown hgr hat
          obtain ⟨A5, c5, rfl, hc5⟩ := own_slice hown
          have BM3 := Lib.hid ((MVS.out _ B2.out).grown hgr HNE0.out)
          have MO3 := Lib.hid ((MOB.out.step B2.out).addC (P2.out.mono fun b hb => ⟨Nat.le_trans HBASE.out hb, FRC.out b hb, FRH.out b hb⟩) hown hgr hat)
          have GR := Lib.hid hgr
          clear hown hgr hat hc5
          refine hK.out _ _ ?_ (fun hHeld2 => ?_)
          · (try dsimp only); exact KSA.out _ _ B2.out GR.out
          clear hK K hHeld
          have hHeld := hHeld2
          clear hHeld2
          (try simp only [Act.put, List.setIfInBounds_toArray, List.set_cons_zero, List.set_cons_succ])
          refine wpAnyH_take (i := 7) (v := ?_) (take_at rfl) (by kernel_rfl) (by kernel_rfl) (by kernel_rfl) (fun _ _ _ h => h) (Or.inl ⟨by rfl, ?_⟩) (by assumption) ?_
          rotate_left
          · intro w' hSw; (try dsimp only at hSw); go_simp; (try with_reducible rfl)
          (try simp only [Act.put, List.setIfInBounds_toArray, List.set_cons_zero, List.set_cons_succ])
          refine wpAnyH_ready (rs := [8]) (by kernel_rfl) (by simp) ?_
          refine AllReadyH.cons (take_at rfl) (fun K hK => ?_) AllReadyH.nil
          have q6 : y3.cell? ⟨w.heap.size, 6, none⟩ = some (.slice A1 ps1.length c1) := BM3.out.cell 6
          have z6 := BM3.out.frozen 6
          go_simp
          change K _ (y3.setCell ⟨w.heap.size, 6, none⟩ (.slice A5 (ps1.length + 1) c5))
          have BM4 : Hid (Blk (y3.setCell ⟨w.heap.size, 6, none⟩ (.slice A5 (ps1.length + 1) c5)) w.heap.size 37 #[.string sp, .string lo, .string hi, .int .i64 fr, .int .i64 tt, .int .i64 1, .slice A5 (ps1.length + 1) c5, .slice A2 n2 c2]) := BM3.out.set_ 6 _
          have MO4 := Lib.hid (MO3.out.keep (w' := y3.setCell ⟨w.heap.size, 6, none⟩ (.slice A5 (ps1.length + 1) c5)) fun b hb _ => Below.heap_setCell _ _ _ b (by show b ≠ w.heap.size; have := HNB.out; omega))
          have OT4 := Lib.hid (OTH.out _ _ B2.out GR.out 6 (.slice A5 (ps1.length + 1) c5))
          clear q6 z6 BM3 MO3 GR
          generalize y3.setCell ⟨w.heap.size, 6, none⟩ (.slice A5 (ps1.length + 1) c5) = y4 at *
          refine hK.out _ _ ?_ (fun hHeld2 => ?_)
          · (try dsimp only); exact OT4.out.1
          clear hK K hHeld
          have hHeld := hHeld2
          clear hHeld2
          (try simp only [Act.put, List.setIfInBounds_toArray, List.set_cons_zero, List.set_cons_succ])
          refine wpAnyH_done (by kernel_rfl) ?_ _
          refine NoPanic.normal ?_
          go_wp2_with fail
          go_roundw
          case rel => exact ⟨i + 1, A5, c5, ps1 ++ [(wc, putW sp p.2)], by omega, by go_num, by rw [List.length_append]; exact BM4.out, OT4.out.2.1, OT4.out.2.2.1, by rw [List.length_append, HCL.out]; exact MO4.out, OT4.out.2.2.2⟩
          case measure => simp [intOf]; omega
        · refine wp_load_row 37 _ rfl w.heap.size rfl _ _ _ _ (MVS.out _ B.out) Tryz.underlying37 rfl (by rw [sizeM]; rfl) ?_
          refine hK.out _ _ ?_ (fun hHeld2 => ?_)
          · (try dsimp only); exact KSS.out _ B.out
          clear hK K hHeld
          have hHeld := hHeld2
          clear hHeld2
          (try simp only [Act.put, List.setIfInBounds_toArray, List.set_cons_zero, List.set_cons_succ])
          refine wpAnyH_ready (rs := [1, 4]) (by kernel_rfl) (by simp) ?_
          refine AllReadyH.cons (take_at rfl) (fun K hK => ?_) (AllReadyH.cons (take_at rfl) (fun K hK => ?_) AllReadyH.nil)
          · have q6 : v0.cell? ⟨w.heap.size, 6, none⟩ = some (.slice A1 ps1.length c1) := (MVS.out _ B.out).cell 6
            go_simp
            clear q6
            refine hK.out _ _ ?_ (fun hHeld2 => ?_)
            · (try dsimp only); exact KSS.out _ B.out
            clear hK K hHeld
            have hHeld := hHeld2
            clear hHeld2
            (try simp only [Act.put, List.setIfInBounds_toArray, List.set_cons_zero, List.set_cons_succ])
            refine wpAnyH_ready (rs := [4]) (by kernel_rfl) (by simp) ?_
            refine AllReadyH.cons (take_at rfl) (fun K hK => ?_) AllReadyH.nil
            go_simp
            refine (put_any ⟨sp, lo, hi, fr, tt, 1, [], []⟩ ⟨A1, ps1.length, c1, A2, n2, c2⟩ p.2 p.1 v0 HSP.out (SRX.out _ B.out)).mono ?_
            rintro e3 y1 ⟨wc, rfl, hr, hb⟩
            have P1 := Lib.hid (hr.mono (G := fun b => wb.heap.size ≤ b) (fun b hb2 => Nat.le_trans B.out.size hb2))
            have B1 := Lib.hid (B.out.step' hb)
            clear hb hr
            (try go_wp2_with fail)
            refine hK.out _ _ ?_ (fun hHeld2 => ?_)
            · (try dsimp only); exact KSS.out _ B1.out
            clear hK K hHeld
            have hHeld := hHeld2
            clear hHeld2
            (try simp only [Act.put, List.setIfInBounds_toArray, List.set_cons_zero, List.set_cons_succ])
            refine wpAnyH_ready (rs := [5]) (by kernel_rfl) (by simp) ?_
            refine AllReadyH.cons (take_at rfl) (fun K hK => ?_) AllReadyH.nil
            refine wp_buildSlice 29 68 1 _ rfl (recC78 wc).toArray i0 _ Tryz.underlying29 hi0 hz0 (by rw [hz1]; decide) (by rw [hz1]; decide) (by rw [hz1]; exact build_write rfl) ?_
            have N2 : Hid (Blk (y1.alloc (Obj.cells (recC78 wc).toArray 68)) y1.heap.size 68 (recC78 wc).toArray) := Blk.new_at rfl
            have P2 := Lib.hid (P1.out.alloc (Obj.cells (recC78 wc).toArray 68))
            have B2 := Lib.hid (B1.out.alloc B1.out.size (Obj.cells (recC78 wc).toArray 68))
            generalize y1.alloc (Obj.cells (recC78 wc).toArray 68) = y2 at *
            generalize y1.heap.size = gn at *
            refine hK.out _ _ ?_ (fun hHeld2 => ?_)
            · (try dsimp only); exact KSS.out _ B2.out
            clear hK K hHeld
            have hHeld := hHeld2
            clear hHeld2
            (try simp only [Act.put, List.setIfInBounds_toArray, List.set_cons_zero, List.set_cons_succ])
            refine wpAnyH_ready (rs := [6]) (by kernel_rfl) (by simp) ?_
            refine AllReadyH.cons (take_at rfl) (fun K hK => ?_) AllReadyH.nil
            have O2 := Lib.hid (OWNT.out _ B2.out)
            refine wp_append_any y2 (.tmp 27) (.tmp 31) 29 rfl wa.heap.size 68 i0 _ 78 1168 Tryz.underlying29 hi0 hz0 hz1 hz2 rfl (by decide) (.slice A1 ps1.length c1) ps1.length (flat recW ps1) rfl O2.out y2.heap.size (some ⟨gn, 0, none⟩) 1 1 (recC78 wc) rfl (reads_one N2.out N2.out.lt) (recC78_one wc) (by unfold maxLen; have := HLEN.out; omega) (by have := HLEN.out; omega) (Nat.le_trans HBASE.out B2.out.size) ?_
            intro v5 y3 hown hgr hat
            obtain ⟨A5, c5, rfl, hc5⟩ := own_slice hown
            have BM3 := Lib.hid ((MVS.out _ B2.out).grown hgr HNE0.out)
            have MO3 := Lib.hid ((MOB.out.step B2.out).addC (P2.out.mono fun b hb => ⟨Nat.le_trans HBASE.out hb, FRC.out b hb, FRH.out b hb⟩) hown hgr hat)
            have GR := Lib.hid hgr
            clear hown hgr hat hc5
            refine hK.out _ _ ?_ (fun hHeld2 => ?_)
            · (try dsimp only); exact KSA.out _ _ B2.out GR.out
            clear hK K hHeld
            have hHeld := hHeld2
            clear hHeld2
            (try simp only [Act.put, List.setIfInBounds_toArray, List.set_cons_zero, List.set_cons_succ])
            refine wpAnyH_take (i := 7) (v := ?_) (take_at rfl) (by kernel_rfl) (by kernel_rfl) (by kernel_rfl) (fun _ _ _ h => h) (Or.inl ⟨by rfl, ?_⟩) (by assumption) ?_
            rotate_left
            · intro w' hSw; (try dsimp only at hSw); go_simp; (try with_reducible rfl)
            (try simp only [Act.put, List.setIfInBounds_toArray, List.set_cons_zero, List.set_cons_succ])
            refine wpAnyH_ready (rs := [8]) (by kernel_rfl) (by simp) ?_
            refine AllReadyH.cons (take_at rfl) (fun K hK => ?_) AllReadyH.nil
            have q6 : y3.cell? ⟨w.heap.size, 6, none⟩ = some (.slice A1 ps1.length c1) := BM3.out.cell 6
            have z6 := BM3.out.frozen 6
            go_simp
            change K _ (y3.setCell ⟨w.heap.size, 6, none⟩ (.slice A5 (ps1.length + 1) c5))
            have BM4 : Hid (Blk (y3.setCell ⟨w.heap.size, 6, none⟩ (.slice A5 (ps1.length + 1) c5)) w.heap.size 37 #[.string sp, .string lo, .string hi, .int .i64 fr, .int .i64 tt, .int .i64 1, .slice A5 (ps1.length + 1) c5, .slice A2 n2 c2]) := BM3.out.set_ 6 _
            have MO4 := Lib.hid (MO3.out.keep (w' := y3.setCell ⟨w.heap.size, 6, none⟩ (.slice A5 (ps1.length + 1) c5)) fun b hb _ => Below.heap_setCell _ _ _ b (by show b ≠ w.heap.size; have := HNB.out; omega))
            have OT4 := Lib.hid (OTH.out _ _ B2.out GR.out 6 (.slice A5 (ps1.length + 1) c5))
            clear q6 z6 BM3 MO3 GR
            generalize y3.setCell ⟨w.heap.size, 6, none⟩ (.slice A5 (ps1.length + 1) c5) = y4 at *
            refine hK.out _ _ ?_ (fun hHeld2 => ?_)
            · (try dsimp only); exact OT4.out.1
            clear hK K hHeld
            have hHeld := hHeld2
            clear hHeld2
            (try simp only [Act.put, List.setIfInBounds_toArray, List.set_cons_zero, List.set_cons_succ])
            refine wpAnyH_done (by kernel_rfl) ?_ _
            refine NoPanic.normal ?_
            go_wp2_with fail
            go_roundw
            case rel => exact ⟨i + 1, A5, c5, ps1 ++ [(wc, putW sp p.2)], by omega, by go_num, by rw [List.length_append]; exact BM4.out, OT4.out.2.1, OT4.out.2.2.1, by rw [List.length_append, HCL.out]; exact MO4.out, OT4.out.2.2.2⟩
            case measure => simp [intOf]; omega
          · go_simp
            refine (put_any ⟨sp, lo, hi, fr, tt, 1, [], []⟩ ⟨A1, ps1.length, c1, A2, n2, c2⟩ p.2 p.1 v0 HSP.out (SRX.out _ B.out)).mono ?_
            rintro e3 y1 ⟨wc, rfl, hr, hb⟩
            have P1 := Lib.hid (hr.mono (G := fun b => wb.heap.size ≤ b) (fun b hb2 => Nat.le_trans B.out.size hb2))
            have B1 := Lib.hid (B.out.step' hb)
            clear hb hr
            (try go_wp2_with fail)
            refine hK.out _ _ ?_ (fun hHeld2 => ?_)
            · (try dsimp only); exact KSS.out _ B1.out
            clear hK K hHeld
            have hHeld := hHeld2
            clear hHeld2
            (try simp only [Act.put, List.setIfInBounds_toArray, List.set_cons_zero, List.set_cons_succ])
            refine wpAnyH_ready (rs := [1, 5]) (by kernel_rfl) (by simp) ?_
            refine AllReadyH.cons (take_at rfl) (fun K hK => ?_) (AllReadyH.cons (take_at rfl) (fun K hK => ?_) AllReadyH.nil)
            · have q6 : y1.cell? ⟨w.heap.size, 6, none⟩ = some (.slice A1 ps1.length c1) := (MVS.out _ B1.out).cell 6
              go_simp
              clear q6
              refine hK.out _ _ ?_ (fun hHeld2 => ?_)
              · (try dsimp only); exact KSS.out _ B1.out
              clear hK K hHeld
              have hHeld := hHeld2
              clear hHeld2
              (try simp only [Act.put, List.setIfInBounds_toArray, List.set_cons_zero, List.set_cons_succ])
              refine wpAnyH_ready (rs := [5]) (by kernel_rfl) (by simp) ?_
              refine AllReadyH.cons (take_at rfl) (fun K hK => ?_) AllReadyH.nil
              refine wp_buildSlice 29 68 1 _ rfl (recC78 wc).toArray i0 _ Tryz.underlying29 hi0 hz0 (by rw [hz1]; decide) (by rw [hz1]; decide) (by rw [hz1]; exact build_write rfl) ?_
              have N2 : Hid (Blk (y1.alloc (Obj.cells (recC78 wc).toArray 68)) y1.heap.size 68 (recC78 wc).toArray) := Blk.new_at rfl
              have P2 := Lib.hid (P1.out.alloc (Obj.cells (recC78 wc).toArray 68))
              have B2 := Lib.hid (B1.out.alloc B1.out.size (Obj.cells (recC78 wc).toArray 68))
              generalize y1.alloc (Obj.cells (recC78 wc).toArray 68) = y2 at *
              generalize y1.heap.size = gn at *
              refine hK.out _ _ ?_ (fun hHeld2 => ?_)
              · (try dsimp only); exact KSS.out _ B2.out
              clear hK K hHeld
              have hHeld := hHeld2
              clear hHeld2
              (try simp only [Act.put, List.setIfInBounds_toArray, List.set_cons_zero, List.set_cons_succ])
              refine wpAnyH_ready (rs := [6]) (by kernel_rfl) (by simp) ?_
              refine AllReadyH.cons (take_at rfl) (fun K hK => ?_) AllReadyH.nil
              have O2 := Lib.hid (OWNT.out _ B2.out)
              refine wp_append_any y2 (.tmp 27) (.tmp 31) 29 rfl wa.heap.size 68 i0 _ 78 1168 Tryz.underlying29 hi0 hz0 hz1 hz2 rfl (by decide) (.slice A1 ps1.length c1) ps1.length (flat recW ps1) rfl O2.out y2.heap.size (some ⟨gn, 0, none⟩) 1 1 (recC78 wc) rfl (reads_one N2.out N2.out.lt) (recC78_one wc) (by unfold maxLen; have := HLEN.out; omega) (by have := HLEN.out; omega) (Nat.le_trans HBASE.out B2.out.size) ?_
              intro v5 y3 hown hgr hat
              obtain ⟨A5, c5, rfl, hc5⟩ := own_slice hown
              have BM3 := Lib.hid ((MVS.out _ B2.out).grown hgr HNE0.out)
              have MO3 := Lib.hid ((MOB.out.step B2.out).addC (P2.out.mono fun b hb => ⟨Nat.le_trans HBASE.out hb, FRC.out b hb, FRH.out b hb⟩) hown hgr hat)
              have GR := Lib.hid hgr
              clear hown hgr hat hc5
              refine hK.out _ _ ?_ (fun hHeld2 => ?_)
              · (try dsimp only); exact KSA.out _ _ B2.out GR.out
              clear hK K hHeld
              have hHeld := hHeld2
              clear hHeld2
              (try simp only [Act.put, List.setIfInBounds_toArray, List.set_cons_zero, List.set_cons_succ])
              refine wpAnyH_take (i := 7) (v := ?_) (take_at rfl) (by kernel_rfl) (by kernel_rfl) (by kernel_rfl) (fun _ _ _ h => h) (Or.inl ⟨by rfl, ?_⟩) (by assumption) ?_
              rotate_left
              · intro w' hSw; (try dsimp only at hSw); go_simp; (try with_reducible rfl)
              (try simp only [Act.put, List.setIfInBounds_toArray, List.set_cons_zero, List.set_cons_succ])
              refine wpAnyH_ready (rs := [8]) (by kernel_rfl) (by simp) ?_
              refine AllReadyH.cons (take_at rfl) (fun K hK => ?_) AllReadyH.nil
              have q6 : y3.cell? ⟨w.heap.size, 6, none⟩ = some (.slice A1 ps1.length c1) := BM3.out.cell 6
              have z6 := BM3.out.frozen 6
              go_simp
              change K _ (y3.setCell ⟨w.heap.size, 6, none⟩ (.slice A5 (ps1.length + 1) c5))
              have BM4 : Hid (Blk (y3.setCell ⟨w.heap.size, 6, none⟩ (.slice A5 (ps1.length + 1) c5)) w.heap.size 37 #[.string sp, .string lo, .string hi, .int .i64 fr, .int .i64 tt, .int .i64 1, .slice A5 (ps1.length + 1) c5, .slice A2 n2 c2]) := BM3.out.set_ 6 _
              have MO4 := Lib.hid (MO3.out.keep (w' := y3.setCell ⟨w.heap.size, 6, none⟩ (.slice A5 (ps1.length + 1) c5)) fun b hb _ => Below.heap_setCell _ _ _ b (by show b ≠ w.heap.size; have := HNB.out; omega))
              have OT4 := Lib.hid (OTH.out _ _ B2.out GR.out 6 (.slice A5 (ps1.length + 1) c5))
              clear q6 z6 BM3 MO3 GR
              generalize y3.setCell ⟨w.heap.size, 6, none⟩ (.slice A5 (ps1.length + 1) c5) = y4 at *
              refine hK.out _ _ ?_ (fun hHeld2 => ?_)
              · (try dsimp only); exact OT4.out.1
              clear hK K hHeld
              have hHeld := hHeld2
              clear hHeld2
              (try simp only [Act.put, List.setIfInBounds_toArray, List.set_cons_zero, List.set_cons_succ])
              refine wpAnyH_done (by kernel_rfl) ?_ _
              refine NoPanic.normal ?_
              go_wp2_with fail
              go_roundw
              case rel => exact ⟨i + 1, A5, c5, ps1 ++ [(wc, putW sp p.2)], by omega, by go_num, by rw [List.length_append]; exact BM4.out, OT4.out.2.1, OT4.out.2.2.1, by rw [List.length_append, HCL.out]; exact MO4.out, OT4.out.2.2.2⟩
              case measure => simp [intOf]; omega
            · refine wp_buildSlice 29 68 1 _ rfl (recC78 wc).toArray i0 _ Tryz.underlying29 hi0 hz0 (by rw [hz1]; decide) (by rw [hz1]; decide) (by rw [hz1]; exact build_write rfl) ?_
              have N2 : Hid (Blk (y1.alloc (Obj.cells (recC78 wc).toArray 68)) y1.heap.size 68 (recC78 wc).toArray) := Blk.new_at rfl
              have P2 := Lib.hid (P1.out.alloc (Obj.cells (recC78 wc).toArray 68))
              have B2 := Lib.hid (B1.out.alloc B1.out.size (Obj.cells (recC78 wc).toArray 68))
              generalize y1.alloc (Obj.cells (recC78 wc).toArray 68) = y2 at *
              generalize y1.heap.size = gn at *
              refine hK.out _ _ ?_ (fun hHeld2 => ?_)
              · (try dsimp only); exact KSS.out _ B2.out
              clear hK K hHeld
              have hHeld := hHeld2
              clear hHeld2
              (try simp only [Act.put, List.setIfInBounds_toArray, List.set_cons_zero, List.set_cons_succ])
              refine wpAnyH_ready (rs := [1]) (by kernel_rfl) (by simp) ?_
              refine AllReadyH.cons (take_at rfl) (fun K hK => ?_) AllReadyH.nil
              have q6 : y2.cell? ⟨w.heap.size, 6, none⟩ = some (.slice A1 ps1.length c1) := (MVS.out _ B2.out).cell 6
              go_simp
              clear q6
              refine hK.out _ _ ?_ (fun hHeld2 => ?_)
              · (try dsimp only); exact KSS.out _ B2.out
              clear hK K hHeld
              have hHeld := hHeld2
              clear hHeld2
              (try simp only [Act.put, List.setIfInBounds_toArray, List.set_cons_zero, List.set_cons_succ])
              refine wpAnyH_ready (rs := [6]) (by kernel_rfl) (by simp) ?_
              refine AllReadyH.cons (take_at rfl) (fun K hK => ?_) AllReadyH.nil
              have O2 := Lib.hid (OWNT.out _ B2.out)
              refine wp_append_any y2 (.tmp 27) (.tmp 31) 29 rfl wa.heap.size 68 i0 _ 78 1168 Tryz.underlying29 hi0 hz0 hz1 hz2 rfl (by decide) (.slice A1 ps1.length c1) ps1.length (flat recW ps1) rfl O2.out y2.heap.size (some ⟨gn, 0, none⟩) 1 1 (recC78 wc) rfl (reads_one N2.out N2.out.lt) (recC78_one wc) (by unfold maxLen; have := HLEN.out; omega) (by have := HLEN.out; omega) (Nat.le_trans HBASE.out B2.out.size) ?_
              intro v5 y3 hown hgr hat
              obtain ⟨A5, c5, rfl, hc5⟩ := own_slice hown
              have BM3 := Lib.hid ((MVS.out _ B2.out).grown hgr HNE0.out)
              have MO3 := Lib.hid ((MOB.out.step B2.out).addC (P2.out.mono fun b hb => ⟨Nat.le_trans HBASE.out hb, FRC.out b hb, FRH.out b hb⟩) hown hgr hat)
              have GR := Lib.hid hgr
              clear hown hgr hat hc5
              refine hK.out _ _ ?_ (fun hHeld2 => ?_)
              · (try dsimp only); exact KSA.out _ _ B2.out GR.out
              clear hK K hHeld
              have hHeld := hHeld2
              clear hHeld2
              (try simp only [Act.put, List.setIfInBounds_toArray, List.set_cons_zero, List.set_cons_succ])
              refine wpAnyH_take (i := 7) (v := ?_) (take_at rfl) (by kernel_rfl) (by kernel_rfl) (by kernel_rfl) (fun _ _ _ h => h) (Or.inl ⟨by rfl, ?_⟩) (by assumption) ?_
              rotate_left
              · intro w' hSw; (try dsimp only at hSw); go_simp; (try with_reducible rfl)
              (try simp only [Act.put, List.setIfInBounds_toArray, List.set_cons_zero, List.set_cons_succ])
              refine wpAnyH_ready (rs := [8]) (by kernel_rfl) (by simp) ?_
              refine AllReadyH.cons (take_at rfl) (fun K hK => ?_) AllReadyH.nil
              have q6 : y3.cell? ⟨w.heap.size, 6, none⟩ = some (.slice A1 ps1.length c1) := BM3.out.cell 6
              have z6 := BM3.out.frozen 6
              go_simp
              change K _ (y3.setCell ⟨w.heap.size, 6, none⟩ (.slice A5 (ps1.length + 1) c5))
              have BM4 : Hid (Blk (y3.setCell ⟨w.heap.size, 6, none⟩ (.slice A5 (ps1.length + 1) c5)) w.heap.size 37 #[.string sp, .string lo, .string hi, .int .i64 fr, .int .i64 tt, .int .i64 1, .slice A5 (ps1.length + 1) c5, .slice A2 n2 c2]) := BM3.out.set_ 6 _
              have MO4 := Lib.hid (MO3.out.keep (w' := y3.setCell ⟨w.heap.size, 6, none⟩ (.slice A5 (ps1.length + 1) c5)) fun b hb _ => Below.heap_setCell _ _ _ b (by show b ≠ w.heap.size; have := HNB.out; omega))
              have OT4 := Lib.hid (OTH.out _ _ B2.out GR.out 6 (.slice A5 (ps1.length + 1) c5))
              clear q6 z6 BM3 MO3 GR
              generalize y3.setCell ⟨w.heap.size, 6, none⟩ (.slice A5 (ps1.length + 1) c5) = y4 at *
              refine hK.out _ _ ?_ (fun hHeld2 => ?_)
              · (try dsimp only); exact OT4.out.1
              clear hK K hHeld
              have hHeld := hHeld2
              clear hHeld2
              (try simp only [Act.put, List.setIfInBounds_toArray, List.set_cons_zero, List.set_cons_succ])
              refine wpAnyH_done (by kernel_rfl) ?_ _
              refine NoPanic.normal ?_
              go_wp2_with fail
              go_roundw
              case rel => exact ⟨i + 1, A5, c5, ps1 ++ [(wc, putW sp p.2)], by omega, by go_num, by rw [List.length_append]; exact BM4.out, OT4.out.2.1, OT4.out.2.2.1, by rw [List.length_append, HCL.out]; exact MO4.out, OT4.out.2.2.2⟩
              case measure => simp [intOf]; omega
    · have hin2 : i = dn := by omega
      subst hin2
      have hpl : ps1.length ≤ 1000 := by
        have h1 := congrArg List.length FMO.out.cp
        have h2 := copyL_len R sp lo hi ((ps.map Prod.snd).take i)
        rw [List.length_map] at h1
        rw [List.length_take] at h2
        simp only at h1
        omega
      have HPL := Lib.hid hpl
      have HALL : Hid ((ps.map Prod.snd).take i = ps.map Prod.snd) := List.take_of_length_le (by rw [List.length_map, HDL.out]; exact Nat.le_refl _)
      rw [HALL.out] at FMO
      clear hpl HALL
      have q5 : wr.cell? ⟨w.heap.size, 5, none⟩ = some (.int .i64 1) := F0.out.cell 5
      have z5 := F0.out.frozen 5
      go_upto_region 11 with fail
      change Code.wp _ _ _ _ (wr.setCell ⟨w.heap.size, 5, none⟩ (.int .i64 2))
      have G0 : Hid (Blk (wr.setCell ⟨w.heap.size, 5, none⟩ (.int .i64 2)) w.heap.size 37 (marr ⟨A1, ps1.length, c1, A2, n2, c2⟩ ⟨sp, lo, hi, fr, tt, 2, [], []⟩)) := F0.out.set_ 5 _
      have GZ := Lib.hid (FZ.out.far (p := ⟨w.heap.size, 5, none⟩) (by show w.heap.size + 2 ≠ w.heap.size; omega) (.int .i64 2))
      have GE := Lib.hid (FE.out.setCell (p := ⟨w.heap.size, 5, none⟩) (Nat.le_refl _) (.int .i64 2))
      have GMO : Hid (MO wa.heap.size ⟨A1, ps1.length, c1, A2, n2, c2⟩ ⟨sp, lo, hi, fr, tt, 1, copyL R sp lo hi (ps.map Prod.snd), []⟩ ps1 [] (wr.setCell ⟨w.heap.size, 5, none⟩ (.int .i64 2))) := FMO.out.keep fun b hb _ => Below.heap_setCell _ _ _ b (by show b ≠ w.heap.size; have := HW3.out; omega)
      clear q5 z5 F0 FR FZ FE FMO
      generalize wr.setCell ⟨w.heap.size, 5, none⟩ (.int .i64 2) = w5 at *
      go_wp2_with (first | (refine wpList_load_row rfl 37 _ rfl (w.heap.size) rfl _ _ _ _ G0.out Tryz.underlying37 rfl (by rw [sizeM]; rfl) ?_) | (refine wpList_store_row rfl 37 _ _ rfl (w.heap.size + 2) (marr ⟨A1, ps1.length, c1, A2, n2, c2⟩ ⟨sp, lo, hi, fr, tt, 2, [], []⟩) rfl rfl 37 _ GZ.out (by rw [sizeM]; rfl) rfl (marr_all _ _) ?_))
      refine bodyPost_ret (results_mv rfl _ (w.heap.size + 2) rfl (.int .i64 0) rfl _ ⟨A1, ps1.length, c1, A2, n2, c2⟩ ⟨sp, lo, hi, fr, tt, 2, [], []⟩ (Blk.row GZ.out _)) rfl ⟨_, rfl, ?_, below_row GE.out (by omega) _⟩
      have h1 := (GMO.out.keep (w' := w5.setRow (w.heap.size + 2) (marr ⟨A1, ps1.length, c1, A2, n2, c2⟩ ⟨sp, lo, hi, fr, tt, 2, [], []⟩)) fun b hb _ => setRow_other _ _ _ _ (by have := HW3.out; omega)).mr (by have := HPL.out; omega) (by simp)
      exact ⟨h1.sp, h1.cp, h1.ch⟩

end Go.Proofs.YtlmmgjgkmbmgpaaGreatDoor



/- The contract of the reference's Compare. (Printed by gen_refcmp.py out of XValCmp.) -/
namespace Go.Proofs.YtlmmgjgkmbmgpaaGreatDoor
open Go.RowKit

def RCmpAt (x : Val) : Prop := ∀ (y : Val) (c d : VC) (w : World), RW w c x → RW w d y →
    Calls Tryz.prog 77 #[c.val, d.val] w fun e w' => e = .returned (.int .i64 (cmpV x y)) ∧ Below w.heap.size w w'

set_option maxRecDepth 100000 in
set_option maxHeartbeats 4000000 in
theorem rcmp_any : ∀ x, RCmpAt x := by
  intro x
  induction x using Val.ind with
  | h k n t l d ihl ihd =>
  intro y c e w hx hy
  obtain ⟨ck, cn, ct, cLA, cln, clc, cDA, cdn, cdc⟩ := c
  obtain ⟨ek, en, et, eLA, eln, elc, eDA, edn, edc⟩ := e
  have hk : ck = k := hx.open.k
  have hn : cn = n := hx.open.n
  have ht : ct = t := hx.open.t
  subst hk hn ht
  have hk2 : ek = y.k := hy.open.k
  have hn2 : en = y.n := hy.open.n
  have ht2 : et = y.t := hy.open.t
  have I0 : Hid (CpInv w ⟨ck, cn, ct, cLA, cln, clc, cDA, cdn, cdc⟩ ⟨ek, en, et, eLA, eln, elc, eDA, edn, edc⟩ ((w.alloc (Obj.cells #[.int .i64 ck, .int .i64 cn, .string ct, .slice cLA cln clc, .slice cDA cdn cdc] 46)).alloc (Obj.cells #[.int .i64 ek, .int .i64 en, .string et, .slice eLA eln elc, .slice eDA edn edc] 46))) :=
    Lib.hid ⟨(Blk.new_at rfl).alloc _, Blk.new_at (by simp), ((Below.refl _ _).alloc (Nat.le_refl _) _).alloc (by simp) _⟩
  cases hne : (ck != ek)
  · have he : ck = ek := by simpa using hne
    have hxy : (Val.mk ck cn ct l d).k = y.k := by rw [← hk2]; exact he
    subst he
    rcases kind_ways ck with hi | ht' | hl | hd | ho
    · have HV : Hid (cmpV (.mk ck cn ct l d) y = cmpI cn en) := by rw [Hid, cmpV_int hxy hi, hn2]; rfl
      clear hx hy ihl ihd hk2 hn2 ht2 hxy
      rcases hi with rfl | rfl | rfl
      all_goals
        go_enter Tryz.func77, Tryz.ntmps77
        go_wp2_with fail
        refine (rints_any _ _ _).mono ?_
        rintro e w' ⟨rfl, rfl⟩
        go_wp2_with fail
        go_ret
        exact ⟨by rw [HV.out]; rfl, I0.out.bel⟩
    · have HV : Hid (cmpV (.mk ck cn ct l d) y = cmpB ct et) := by rw [Hid, cmpV_text hxy ht', ht2]; rfl
      have HT : Hid (ct.size ≤ reach) := hx.open.tsz
      clear hx hy ihl ihd hk2 hn2 ht2 hxy
      rcases ht' with rfl | rfl | rfl
      all_goals
        go_enter Tryz.func77, Tryz.ntmps77
        go_wp2_with fail
        refine (rtexts_any _ _ _ HT.out).mono ?_
        rintro e w' ⟨rfl, hb⟩
        go_wp2_with fail
        go_ret
        exact ⟨by rw [HV.out]; rfl, I0.out.bel.step' hb⟩
    · have HV := Lib.hid (cmpV_list hxy hl)
      obtain ⟨ps, hps, hsl⟩ := hx.sl
      obtain ⟨qs, hqs, hql⟩ := hy.sl
      simp only at hsl hql
      have hz1 := hsl.sz
      have hz2 := hql.sz
      unfold reach at hz1 hz2
      have P1 := Lib.hid hsl
      have P2 := Lib.hid hql
      have HN1 : Hid (cln = l.length) := hx.open.ln
      have HN2 : Hid (eln = y.l.length) := hy.open.ln
      have HS1 : Hid (ps.map Prod.snd = l) := hps
      have HS2 : Hid (qs.map Prod.snd = y.l) := hqs
      have IH := Lib.hid ihl
      clear hx hy ihl ihd hk2 hn2 ht2 hxy hsl hql hps hqs
      subst hl
      all_goals
        go_enter Tryz.func77, Tryz.ntmps77
        go_wp2_with fail
        go_loopw [5] (fun v5 wr => ∃ i : Nat, i ≤ cln ∧ i ≤ eln ∧ v5 = .int .i64 i ∧ cmpL l y.l = cmpL (l.drop i) (y.l.drop i) ∧ CpInv w ⟨6, cn, ct, cLA, cln, clc, cDA, cdn, cdc⟩ ⟨6, en, et, eLA, eln, elc, eDA, edn, edc⟩ wr) (fun v5 _ => cln - (intOf v5).toNat)
        case atStart => exact ⟨0, Nat.zero_le _, Nat.zero_le _, rfl, rfl, I0.out⟩
        case round =>
          obtain ⟨i, hi1, hi2, rfl, hq, I⟩ := hrel
          have HQ := Lib.hid hq
          have J := Lib.hid I
          have q0 := I.b0.cell 3
          have q1 := I.b1.cell 3
          simp at q0 q1
          clear hq
          by_cases hlt : i < cln ∧ i < eln
          · obtain ⟨hl1, hl2⟩ := hlt
            obtain ⟨p, hp⟩ : ∃ p, ps[i]? = some p := ⟨_, List.getElem?_eq_getElem (by have := P1.out.sr.ln; omega)⟩
            obtain ⟨q, hq⟩ : ∃ q, qs[i]? = some q := ⟨_, List.getElem?_eq_getElem (by have := P2.out.sr.ln; omega)⟩
            obtain ⟨b1, o1, rfl, _, hu1, hr1⟩ := P1.out.vat hp
            obtain ⟨b2, o2, rfl, _, hu2, hr2⟩ := P2.out.vat hq
            have g1 : l[i]? = some p.2 := by rw [← HS1.out, List.getElem?_map, hp]; rfl
            have g2 : y.l[i]? = some q.2 := by rw [← HS2.out, List.getElem?_map, hq]; rfl
            have HA := Lib.hid (HQ.out.trans (cmpL_at g1 g2))
            obtain ⟨y0, y1, y2, y3, y4⟩ := hu1.keep (I.bel.block b1 hu1.lt)
            obtain ⟨z0, z1, z2, z3, z4⟩ := hu2.keep (I.bel.block b2 hu2.lt)
            have E0 : ∀ q : BW wr, q.val.cell? ⟨w.heap.size, 3, none⟩ = some (.slice (some ⟨b1, o1, none⟩) cln clc) := fun q => q.cell (J.out.b0.cell 3)
            have E1 : ∀ q : BW wr, q.val.cell? ⟨w.heap.size + 1, 3, none⟩ = some (.slice (some ⟨b2, o2, none⟩) eln elc) := fun q => q.cell (J.out.b1.cell 3)
            have Y0 : ∀ k : BW wr, k.val.cell? ⟨b1, o1 + i * 5, none⟩ = some (.int .i64 p.1.k) := fun k => k.cell y0
            have Y1 : ∀ k : BW wr, k.val.cell? ⟨b1, o1 + i * 5 + 1, none⟩ = some (.int .i64 p.1.n) := fun k => k.cell y1
            have Y2 : ∀ k : BW wr, k.val.cell? ⟨b1, o1 + i * 5 + 2, none⟩ = some (.string p.1.t) := fun k => k.cell y2
            have Y3 : ∀ k : BW wr, k.val.cell? ⟨b1, o1 + i * 5 + 3, none⟩ = some (.slice p.1.LA p.1.ln p.1.lc) := fun k => k.cell y3
            have Y4 : ∀ k : BW wr, k.val.cell? ⟨b1, o1 + i * 5 + 4, none⟩ = some (.slice p.1.DA p.1.dn p.1.dc) := fun k => k.cell y4
            have Z0 : ∀ k : BW wr, k.val.cell? ⟨b2, o2 + i * 5, none⟩ = some (.int .i64 q.1.k) := fun k => k.cell z0
            have Z1 : ∀ k : BW wr, k.val.cell? ⟨b2, o2 + i * 5 + 1, none⟩ = some (.int .i64 q.1.n) := fun k => k.cell z1
            have Z2 : ∀ k : BW wr, k.val.cell? ⟨b2, o2 + i * 5 + 2, none⟩ = some (.string q.1.t) := fun k => k.cell z2
            have Z3 : ∀ k : BW wr, k.val.cell? ⟨b2, o2 + i * 5 + 3, none⟩ = some (.slice q.1.LA q.1.ln q.1.lc) := fun k => k.cell z3
            have Z4 : ∀ k : BW wr, k.val.cell? ⟨b2, o2 + i * 5 + 4, none⟩ = some (.slice q.1.DA q.1.dn q.1.dc) := fun k => k.cell z4
            have K1 : Hid (∀ k : BW wr, Calls Tryz.prog 77 #[p.1.val, q.1.val] k.val fun e w'' => e = .returned (.int .i64 (cmpV p.2 q.2)) ∧ ∃ k : BW wr, w'' = k.val) := fun k =>
              Calls.bw (IH.out p.2 (List.mem_of_getElem? g1) q.2 p.1 q.1 k.val ((hr1.step I.bel).step k.below) ((hr2.step I.bel).step k.below))
            have hi0 : (0 : Int) ≤ (i : Int) := by omega
            have hi3 : (i : Int) < (cln : Int) := by omega
            have hi4 : (i : Int) < (eln : Int) := by omega
            clear hp hq hu1 hu2 hr1 hr2 g1 g2 y0 y1 y2 y3 y4 z0 z1 z2 z3 z4 I
            go_upto_region 16 with fail
            refine wp_region_bw (by kernel_rfl) (by kernel_rfl) ?_
            repeat (go_big_quiet_step (with_reducible exact K1.out _))
            refine wpQuiet_nil ?_
            rintro _ ⟨kw, rfl⟩
            have J2 := Lib.hid (J.out.step kw.below)
            clear E0 E1 Y0 Y1 Y2 Y3 Y4 Z0 Z1 Z2 Z3 Z4 K1 hi0 hi3 hi4
            generalize kw.val = w2 at *
            cases hc : (cmpV p.2 q.2 != 0)
            · have HC : Hid (cmpL l y.l = cmpL (l.drop (i + 1)) (y.l.drop (i + 1))) := by
                have : cmpV p.2 q.2 = 0 := by simpa using hc
                rw [Hid, HA.out, if_neg (by simpa using this)]
              go_wp2_with fail
              go_roundw
              case rel => exact ⟨i + 1, by omega, by omega, by go_num, HC.out, J2.out⟩
              case measure => simp [intOf]; omega
            · have HC : Hid (cmpL l y.l = cmpV p.2 q.2) := by
                rw [Hid, HA.out, if_pos (by simpa using hc)]
              go_wp2_with fail
              go_ret
              exact ⟨by rw [HV.out]; show _ = Ending.returned (.int .i64 (cmpL l y.l)); rw [HC.out]; rfl, J2.out.bel⟩
          · have HE := Lib.hid (HQ.out.trans (cmpL_end (by have := HN1.out; omega) (by have := HN2.out; omega) (by have := HN1.out; have := HN2.out; omega)))
            clear I
            by_cases hl1 : i < cln
            all_goals
             first | have hx9 : eln ≤ i := by omega | have hx9 : cln ≤ i := by omega
             go_wp2_with fail
             refine (rints_any _ _ _).mono ?_
             rintro e w' ⟨rfl, rfl⟩
             go_wp2_with fail
             go_ret
             exact ⟨by rw [HV.out]; show _ = Ending.returned (.int .i64 (cmpL l y.l)); rw [HE.out, ← HN1.out, ← HN2.out]; rfl, J.out.bel⟩
    · have HV := Lib.hid (cmpV_doc hxy hd)
      obtain ⟨ps, hps, hsl⟩ := hx.sd
      obtain ⟨qs, hqs, hql⟩ := hy.sd
      simp only at hsl hql
      have hz1 := hsl.sz
      have hz2 := hql.sz
      unfold reach at hz1 hz2
      have P1 := Lib.hid hsl
      have P2 := Lib.hid hql
      have HN1 : Hid (cdn = d.length) := hx.open.dn
      have HN2 : Hid (edn = y.d.length) := hy.open.dn
      have HS1 : Hid (ps.map Prod.snd = d) := hps
      have HS2 : Hid (qs.map Prod.snd = y.d) := hqs
      have IH := Lib.hid ihd
      clear hx hy ihl ihd hk2 hn2 ht2 hxy hsl hql hps hqs
      subst hd
      all_goals
        go_enter Tryz.func77, Tryz.ntmps77
        go_wp2_with fail
        go_loopw [7] (fun v7 wr => ∃ i : Nat, i ≤ cdn ∧ i ≤ edn ∧ v7 = .int .i64 i ∧ cmpD d y.d = cmpD (d.drop i) (y.d.drop i) ∧ CpInv w ⟨5, cn, ct, cLA, cln, clc, cDA, cdn, cdc⟩ ⟨5, en, et, eLA, eln, elc, eDA, edn, edc⟩ wr) (fun v7 _ => cdn - (intOf v7).toNat)
        case atStart => exact ⟨0, Nat.zero_le _, Nat.zero_le _, rfl, rfl, I0.out⟩
        case round =>
          obtain ⟨i, hi1, hi2, rfl, hq, I⟩ := hrel
          have HQ := Lib.hid hq
          have J := Lib.hid I
          have q0 := I.b0.cell 4
          have q1 := I.b1.cell 4
          simp at q0 q1
          clear hq
          by_cases hlt : i < cdn ∧ i < edn
          · obtain ⟨hl1, hl2⟩ := hlt
            obtain ⟨p, hp⟩ : ∃ p, ps[i]? = some p := ⟨_, List.getElem?_eq_getElem (by have := P1.out.sr.ln; omega)⟩
            obtain ⟨q, hq⟩ : ∃ q, qs[i]? = some q := ⟨_, List.getElem?_eq_getElem (by have := P2.out.sr.ln; omega)⟩
            obtain ⟨b1, o1, rfl, _, hs1, hu1, hr1⟩ := P1.out.vat hp
            obtain ⟨b2, o2, rfl, _, hs2, hu2, hr2⟩ := P2.out.vat hq
            have g1 : d[i]? = some p.2 := by rw [← HS1.out, List.getElem?_map, hp]; rfl
            have g2 : y.d[i]? = some q.2 := by rw [← HS2.out, List.getElem?_map, hq]; rfl
            have HA := Lib.hid (HQ.out.trans (cmpD_at g1 g2))
            obtain ⟨y0, y1, y2, y3, y4⟩ := hu1.keep (I.bel.block b1 hu1.lt)
            obtain ⟨z0, z1, z2, z3, z4⟩ := hu2.keep (I.bel.block b2 hu2.lt)
            have n0 := (I.bel.cell (p := ⟨b1, o1 + i * 6, none⟩) hu1.lt).trans hs1
            have n1 := (I.bel.cell (p := ⟨b2, o2 + i * 6, none⟩) hu2.lt).trans hs2
            have N0 : ∀ k : BW wr, k.val.cell? ⟨b1, o1 + i * 6, none⟩ = some (.string p.2.s) := fun k => k.cell n0
            have N1 : ∀ k : BW wr, k.val.cell? ⟨b2, o2 + i * 6, none⟩ = some (.string q.2.s) := fun k => k.cell n1
            have E0 : ∀ q : BW wr, q.val.cell? ⟨w.heap.size, 4, none⟩ = some (.slice (some ⟨b1, o1, none⟩) cdn cdc) := fun q => q.cell (J.out.b0.cell 4)
            have E1 : ∀ q : BW wr, q.val.cell? ⟨w.heap.size + 1, 4, none⟩ = some (.slice (some ⟨b2, o2, none⟩) edn edc) := fun q => q.cell (J.out.b1.cell 4)
            have Y0 : ∀ k : BW wr, k.val.cell? ⟨b1, o1 + i * 6 + 1, none⟩ = some (.int .i64 p.1.k) := fun k => k.cell y0
            have Y1 : ∀ k : BW wr, k.val.cell? ⟨b1, o1 + i * 6 + 1 + 1, none⟩ = some (.int .i64 p.1.n) := fun k => k.cell y1
            have Y2 : ∀ k : BW wr, k.val.cell? ⟨b1, o1 + i * 6 + 1 + 2, none⟩ = some (.string p.1.t) := fun k => k.cell y2
            have Y3 : ∀ k : BW wr, k.val.cell? ⟨b1, o1 + i * 6 + 1 + 3, none⟩ = some (.slice p.1.LA p.1.ln p.1.lc) := fun k => k.cell y3
            have Y4 : ∀ k : BW wr, k.val.cell? ⟨b1, o1 + i * 6 + 1 + 4, none⟩ = some (.slice p.1.DA p.1.dn p.1.dc) := fun k => k.cell y4
            have Z0 : ∀ k : BW wr, k.val.cell? ⟨b2, o2 + i * 6 + 1, none⟩ = some (.int .i64 q.1.k) := fun k => k.cell z0
            have Z1 : ∀ k : BW wr, k.val.cell? ⟨b2, o2 + i * 6 + 1 + 1, none⟩ = some (.int .i64 q.1.n) := fun k => k.cell z1
            have Z2 : ∀ k : BW wr, k.val.cell? ⟨b2, o2 + i * 6 + 1 + 2, none⟩ = some (.string q.1.t) := fun k => k.cell z2
            have Z3 : ∀ k : BW wr, k.val.cell? ⟨b2, o2 + i * 6 + 1 + 3, none⟩ = some (.slice q.1.LA q.1.ln q.1.lc) := fun k => k.cell z3
            have Z4 : ∀ k : BW wr, k.val.cell? ⟨b2, o2 + i * 6 + 1 + 4, none⟩ = some (.slice q.1.DA q.1.dn q.1.dc) := fun k => k.cell z4
            have KB : Hid (∀ (W : World), Below w.heap.size w W → ∀ k : BW W, Calls Tryz.prog 77 #[p.1.val, q.1.val] k.val fun e w'' => e = .returned (.int .i64 (cmpV p.2.v q.2.v)) ∧ ∃ k : BW W, w'' = k.val) := fun W hW k =>
              Calls.bw (IH.out p.2 (List.mem_of_getElem? g1) q.2.v p.1 q.1 k.val ((hr1.step hW).step k.below) ((hr2.step hW).step k.below))
            have hi0 : (0 : Int) ≤ (i : Int) := by omega
            have hi3 : (i : Int) < (cdn : Int) := by omega
            have hi4 : (i : Int) < (edn : Int) := by omega
            clear hq hu1 hu2 hr1 hr2 g1 g2 y0 y1 y2 y3 y4 z0 z1 z2 z3 z4 I hs1 hs2 n0 n1
            have K2 : Hid (∀ k : BW wr, Calls Tryz.prog 86 #[.string p.2.s, .string q.2.s] k.val fun e w'' => e = .returned (.int .i64 (cmpB p.2.s q.2.s)) ∧ ∃ k : BW wr, w'' = k.val) := fun k =>
              Calls.bw (rtexts_any _ _ _ (P1.out.ns p (List.mem_of_getElem? hp)))
            clear hp
            go_upto_region 24 with fail
            refine wp_region_bw (by kernel_rfl) (by kernel_rfl) ?_
            repeat (go_big_quiet_step (with_reducible exact K2.out _))
            refine wpQuiet_nil ?_
            rintro _ ⟨kw, rfl⟩
            clear q0 q1
            cases hb : (cmpB p.2.s q.2.s != 0)
            · have hb0 : (cmpB p.2.s q.2.s == 0) = true := by simpa using hb
              have HA' : Hid (cmpD d y.d = if cmpV p.2.v q.2.v ≠ 0 then cmpV p.2.v q.2.v else cmpD (d.drop (i + 1)) (y.d.drop (i + 1))) := by
                have : cmpB p.2.s q.2.s = 0 := by simpa using hb
                rw [Hid, HA.out, if_neg (by simpa using this)]
              have J1 := Lib.hid (J.out.step kw.below)
              have E0' : ∀ q : BW kw.val, q.val.cell? ⟨w.heap.size, 4, none⟩ = some (.slice (some ⟨b1, o1, none⟩) cdn cdc) := fun q => q.cell (E0 kw)
              have E1' : ∀ q : BW kw.val, q.val.cell? ⟨w.heap.size + 1, 4, none⟩ = some (.slice (some ⟨b2, o2, none⟩) edn edc) := fun q => q.cell (E1 kw)
              have Y0' : ∀ k : BW kw.val, k.val.cell? ⟨b1, o1 + i * 6 + 1, none⟩ = some (.int .i64 p.1.k) := fun k => k.cell (Y0 kw)
              have Y1' : ∀ k : BW kw.val, k.val.cell? ⟨b1, o1 + i * 6 + 1 + 1, none⟩ = some (.int .i64 p.1.n) := fun k => k.cell (Y1 kw)
              have Y2' : ∀ k : BW kw.val, k.val.cell? ⟨b1, o1 + i * 6 + 1 + 2, none⟩ = some (.string p.1.t) := fun k => k.cell (Y2 kw)
              have Y3' : ∀ k : BW kw.val, k.val.cell? ⟨b1, o1 + i * 6 + 1 + 3, none⟩ = some (.slice p.1.LA p.1.ln p.1.lc) := fun k => k.cell (Y3 kw)
              have Y4' : ∀ k : BW kw.val, k.val.cell? ⟨b1, o1 + i * 6 + 1 + 4, none⟩ = some (.slice p.1.DA p.1.dn p.1.dc) := fun k => k.cell (Y4 kw)
              have Z0' : ∀ k : BW kw.val, k.val.cell? ⟨b2, o2 + i * 6 + 1, none⟩ = some (.int .i64 q.1.k) := fun k => k.cell (Z0 kw)
              have Z1' : ∀ k : BW kw.val, k.val.cell? ⟨b2, o2 + i * 6 + 1 + 1, none⟩ = some (.int .i64 q.1.n) := fun k => k.cell (Z1 kw)
              have Z2' : ∀ k : BW kw.val, k.val.cell? ⟨b2, o2 + i * 6 + 1 + 2, none⟩ = some (.string q.1.t) := fun k => k.cell (Z2 kw)
              have Z3' : ∀ k : BW kw.val, k.val.cell? ⟨b2, o2 + i * 6 + 1 + 3, none⟩ = some (.slice q.1.LA q.1.ln q.1.lc) := fun k => k.cell (Z3 kw)
              have Z4' : ∀ k : BW kw.val, k.val.cell? ⟨b2, o2 + i * 6 + 1 + 4, none⟩ = some (.slice q.1.DA q.1.dn q.1.dc) := fun k => k.cell (Z4 kw)
              have K1' : Hid (∀ k : BW kw.val, Calls Tryz.prog 77 #[p.1.val, q.1.val] k.val fun e w'' => e = .returned (.int .i64 (cmpV p.2.v q.2.v)) ∧ ∃ k : BW kw.val, w'' = k.val) := fun k =>
                KB.out kw.val (J1.out.bel) k
              clear E0 E1 Y0 Y1 Y2 Y3 Y4 Z0 Z1 Z2 Z3 Z4 N0 N1 K2
              generalize kw.val = w2 at *
              go_upto_region 26 with fail
              refine wp_region_bw (by kernel_rfl) (by kernel_rfl) ?_
              repeat (go_big_quiet_step (with_reducible exact K1'.out _))
              refine wpQuiet_nil ?_
              rintro _ ⟨kv, rfl⟩
              have J2 := Lib.hid (J1.out.step kv.below)
              clear E0' E1' Y0' Y1' Y2' Y3' Y4' Z0' Z1' Z2' Z3' Z4' K1' hi0 hi3 hi4
              generalize kv.val = w3 at *
              cases hc : (cmpV p.2.v q.2.v != 0)
              · have HC : Hid (cmpD d y.d = cmpD (d.drop (i + 1)) (y.d.drop (i + 1))) := by
                  have : cmpV p.2.v q.2.v = 0 := by simpa using hc
                  rw [Hid, HA'.out, if_neg (by simpa using this)]
                go_wp2_with fail
                go_roundw
                case rel => exact ⟨i + 1, by omega, by omega, by go_num, HC.out, J2.out⟩
                case measure => simp [intOf]; omega
              · have HC : Hid (cmpD d y.d = cmpV p.2.v q.2.v) := by
                  rw [Hid, HA'.out, if_pos (by simpa using hc)]
                go_wp2_with fail
                go_ret
                exact ⟨by rw [HV.out]; show _ = Ending.returned (.int .i64 (cmpD d y.d)); rw [HC.out]; rfl, J2.out.bel⟩
            · have hb0 : (cmpB p.2.s q.2.s == 0) = false := by simpa using hb
              have HC : Hid (cmpD d y.d = cmpB p.2.s q.2.s) := by
                rw [Hid, HA.out, if_pos (by simpa using hb)]
              have J2 := Lib.hid (J.out.step kw.below)
              clear E0 E1 Y0 Y1 Y2 Y3 Y4 Z0 Z1 Z2 Z3 Z4 N0 N1 K2 hi0 hi3 hi4
              generalize kw.val = w2 at *
              go_wp2_with fail
              go_ret
              exact ⟨by rw [HV.out]; show _ = Ending.returned (.int .i64 (cmpD d y.d)); rw [HC.out]; rfl, J2.out.bel⟩
          · have HE := Lib.hid (HQ.out.trans (cmpD_end (by have := HN1.out; omega) (by have := HN2.out; omega) (by have := HN1.out; have := HN2.out; omega)))
            clear I
            by_cases hl1 : i < cdn
            all_goals
             first | have hx9 : edn ≤ i := by omega | have hx9 : cdn ≤ i := by omega
             go_wp2_with fail
             refine (rints_any _ _ _).mono ?_
             rintro e w' ⟨rfl, rfl⟩
             go_wp2_with fail
             go_ret
             exact ⟨by rw [HV.out]; show _ = Ending.returned (.int .i64 (cmpD d y.d)); rw [HE.out, ← HN1.out, ← HN2.out]; rfl, J.out.bel⟩
    · obtain ⟨h3, h9, h10, h4, h7, h8, h6, h5⟩ := ho
      have HV := Lib.hid (cmpV_other hxy h3 h9 h10 h4 h7 h8 h6 h5)
      clear hx hy ihl ihd hk2 hn2 ht2 hxy
      have e3 : (ck == 3) = false := by simpa using h3
      have e9 : (ck == 9) = false := by simpa using h9
      have e10 : (ck == 10) = false := by simpa using h10
      have e4 : (ck == 4) = false := by simpa using h4
      have e7 : (ck == 7) = false := by simpa using h7
      have e8 : (ck == 8) = false := by simpa using h8
      have e6 : (ck == 6) = false := by simpa using h6
      have e5 : (ck == 5) = false := by simpa using h5
      clear h3 h9 h10 h4 h7 h8 h6 h5
      go_enter Tryz.func77, Tryz.ntmps77
      go_wp2_with fail
      go_ret
      exact ⟨by rw [HV.out]; rfl, I0.out.bel⟩
  · have HV : Hid (cmpV (.mk ck cn ct l d) y = cmpI ck ek) := by
      have : ck ≠ ek := by simpa using hne
      rw [Hid, cmpV_kind (by rw [← hk2]; exact this), ← hk2]
      rfl
    clear hx hy ihl ihd hk2 hn2 ht2
    go_enter Tryz.func77, Tryz.ntmps77
    go_wp2_with fail
    refine (rints_any _ _ _).mono ?_
    rintro e w' ⟨rfl, rfl⟩
    go_wp2_with fail
    go_ret
    exact ⟨by rw [HV.out]; rfl, I0.out.bel⟩

end Go.Proofs.YtlmmgjgkmbmgpaaGreatDoor



/- The reference's In, Equal, and the law's id. -/
namespace Go.Proofs.YtlmmgjgkmbmgpaaGreatDoor
open Go.RowKit
set_option linter.unusedSimpArgs false

theorem bl_cmp : ∀ l m : List UInt8, Op.bytesLess l m = true ↔ Lib.compareBytes l m < 0
  | [], [] => by decide
  | [], b :: m => by simp [Op.bytesLess, Lib.compareBytes]
  | a :: l, [] => by simp [Op.bytesLess, Lib.compareBytes]
  | a :: l, b :: m => by
    have ih := bl_cmp l m
    rw [bl_cons, cmpBy_at]
    by_cases h : (a.toNat : Int) = (b.toNat : Int)
    · rw [if_pos h, ← ih]
      have h2 : a = b := UInt8.toNat_inj.1 (by omega)
      constructor
      · rintro (h3 | h3)
        · omega
        · exact h3.2
      · intro h3; exact .inr ⟨h2, h3⟩
    · rw [if_neg h]
      simp only [cmpI, Lib.compareInt]
      constructor
      · rintro (h3 | h3)
        · rw [if_pos (by omega)]; omega
        · exact absurd (congrArg (fun x : UInt8 => (x.toNat : Int)) h3.1) h
      · intro h3
        by_cases h4 : a.toNat < b.toNat
        · exact .inl h4
        · exfalso
          rw [if_neg (by omega)] at h3
          split at h3 <;> omega
theorem bl_cmpB (a b : ByteArray) : Op.bytesLess a.toList b.toList = decide (cmpB a b < 0) := by
  have h := bl_cmp a.data.toList b.data.toList
  rw [Go.ByteArray.toList_eq, Go.ByteArray.toList_eq]
  show _ = decide (Lib.compareBytes a.data.toList b.data.toList < 0)
  rw [Bool.eq_iff_iff, h, decide_eq_true_iff]

theorem keyR_size (l : List Val) : (keyR l).1.size ≤ 8500000 * l.length := by
  unfold keyR
  split
  · rename_i h
    rw [strOfNums_size]
    exact encAll_len h
  · exact Nat.zero_le _
theorem rencR_size {ks : List Od} {ha : Bool} {x : Val} (h8 : ks.length ≤ 8) : (rencR ks ha x).1.size ≤ 68000000 := by
  cases hv : valsR ks x with
  | none => rw [rencR_none hv]; exact Nat.zero_le _
  | some ys =>
    have hl := valsR_len hv
    unfold rencR
    rw [hv]
    simp only
    split
    · have := keyR_size [intH (by assumption)]
      simp only [List.length_singleton] at this
      omega
    · have := keyR_size ys
      have : 8500000 * ys.length ≤ 8500000 * 8 := Nat.mul_le_mul_left _ (by omega)
      omega

set_option maxRecDepth 100000 in
set_option maxHeartbeats 1000000 in
theorem rin48_any (lo hi key : ByteArray) (w : World) (h1 : lo.size ≤ reach) (h2 : key.size ≤ reach) : Calls Tryz.prog 47 #[.agg #[.string lo, .string hi], .string key] w fun e w' => e = .returned (.bool (inB key (spanC lo hi))) ∧ Below w.heap.size w w' := by
  have B0 : Hid (Blk (w.alloc (Obj.cells #[.string lo, .string hi] 111)) w.heap.size 111 #[.string lo, .string hi]) := Blk.new_at rfl
  have BE : Hid (Below w.heap.size w (w.alloc (Obj.cells #[.string lo, .string hi] 111))) := (Below.refl _ _).alloc (Nat.le_refl _) _
  have HT1 := Lib.hid fun (wr : World) => rtexts_any lo key wr h1
  have HT2 := Lib.hid fun (wr : World) => rtexts_any key hi wr h2
  have HA : Hid (inB key (spanC lo hi) = (!decide (cmpB key lo < 0) && (hi.toList == [] || decide (cmpB key hi < 0)))) := by
    rw [Hid, ← bl_cmpB, ← bl_cmpB]; rfl
  have HB := Lib.hid (cmpB_anti lo key)
  clear h1 h2
  go_enter Tryz.func47, Tryz.ntmps47
  go_upto_region 1 with fail
  change Code.wp _ _ _ _ (w.alloc (Obj.cells #[.string lo, .string hi] 111))
  generalize w.alloc (Obj.cells #[.string lo, .string hi] 111) = wa at *
  have q0 : wa.cell? ⟨w.heap.size, 0, none⟩ = some (.string lo) := B0.out.cell 0
  go_wp2_with fail
  refine (HT1.out _).mono ?_
  rintro e w1 ⟨rfl, hb⟩
  obtain ⟨c1, hc1⟩ : ∃ c, cmpB lo key = c := ⟨_, rfl⟩
  rw [hc1] at HB ⊢
  clear hc1
  have C0 := Lib.hid (B0.out.step hb)
  have CE := Lib.hid (BE.out.step' hb)
  clear hb q0 B0 BE HT1
  have q1 : w1.cell? ⟨w.heap.size, 1, none⟩ = some (.string hi) := C0.out.cell 1
  by_cases hc : c1 ≤ 0
  · cases h2 : (hi.toList == [])
    · go_wp2_with fail
      refine (HT2.out _).mono ?_
      rintro e w2 ⟨rfl, hb⟩
      have CE2 := Lib.hid (CE.out.step' hb)
      have HV : Hid (inB key (spanC lo hi) = decide (cmpB key hi < 0)) := by
        rw [Hid, HA.out, HB.out, h2, decide_eq_false (by omega)]; simp
      generalize cmpB key hi = c2 at HV ⊢
      clear hb h2
      by_cases hd : c2 < 0
      · go_wp2_with fail
        go_ret
        exact ⟨by rw [HV.out, decide_eq_true hd]; rfl, CE2.out⟩
      · go_wp2_with fail
        go_ret
        exact ⟨by rw [HV.out]; rfl, CE2.out⟩
    · have HV : Hid (inB key (spanC lo hi) = true) := by
        rw [Hid, HA.out, HB.out, h2, decide_eq_false (by omega)]; simp
      go_wp2_with fail
      go_ret
      exact ⟨by rw [HV.out]; rfl, CE.out⟩
  · have HV : Hid (inB key (spanC lo hi) = false) := by
      rw [Hid, HA.out, HB.out, decide_eq_true (by omega)]; simp
    go_wp2_with fail
    go_ret
    exact ⟨by rw [HV.out]; rfl, CE.out⟩

set_option maxRecDepth 100000 in
set_option maxHeartbeats 1000000 in
theorem rin_any (M : Mv) (ma : MA) (R : Ro) (a : RA) (x : Val) (c : VC) (w : World) (h : RR w a R) (hx : RW w c x) (h8 : R.ks.length ≤ 8) (hk : R.ha = true → R.ks.length = 1) (hlo : M.lo.size ≤ reach) :
    Calls Tryz.prog 16 #[mval ma M, rval a R, c.val] w fun e w' => e = .returned (.bool (insD R M.lo M.hi x)) ∧ Below w.heap.size w w' := by
  obtain ⟨KA, kn, kc, CA, cn, cc⟩ := a
  have HE := Lib.hid fun (wr : World) (hb : Below w.heap.size w wr) => rsenc_any R.ks R.ha KA kn kc x c wr (h.ks.step hb) (hx.step hb) h8
  have HEQ := Lib.hid (enc_same (x := x) hk)
  have HSZ : Hid ((rencR R.ks R.ha x).1.size ≤ 68000000) := rencR_size h8
  clear h hx
  obtain ⟨⟨K1, K2⟩, hK⟩ : ∃ K, rencR R.ks R.ha x = K := ⟨_, rfl⟩
  rw [hK] at HE HEQ HSZ
  have HK : Hid (encR R.ks R.ha x = (K1, K2)) := HEQ.out.symm
  clear hK HEQ
  obtain ⟨wa, hwa⟩ : ∃ wa, (((w.alloc (Obj.cells (marr ma M) 37)).alloc (Obj.cells (rarr ⟨KA, kn, kc, CA, cn, cc⟩ R) 27)).alloc (Obj.cells c.arr 46)) = wa := ⟨_, rfl⟩
  have BM : Hid (Blk wa w.heap.size 37 (marr ma M)) := by rw [← hwa]; exact ((Blk.new_at rfl).alloc _).alloc _
  have B0 : Hid (Blk wa (w.heap.size + 1) 27 (rarr ⟨KA, kn, kc, CA, cn, cc⟩ R)) := by rw [← hwa]; exact (Blk.new_at (by simp)).alloc _
  have B1 : Hid (Blk wa (w.heap.size + 2) 46 c.arr) := by rw [← hwa]; exact Blk.new_at (by simp)
  have BE : Hid (Below w.heap.size w wa) := by rw [← hwa]; exact (((Below.refl _ _).alloc (Nat.le_refl _) _).alloc (by simp) _).alloc (by simp; omega) _
  have HWA := Lib.hid hwa
  clear hwa
  go_enter Tryz.func16, Tryz.ntmps16
  go_upto_region 1 with fail
  change Code.wp _ _ _ _ (((w.alloc (Obj.cells (marr ma M) 37)).alloc (Obj.cells (rarr ⟨KA, kn, kc, CA, cn, cc⟩ R) 27)).alloc (Obj.cells c.arr 46))
  rw [HWA.out]
  clear HWA
  obtain ⟨q0, q1, q2, q3, q4, q5, qz⟩ := blk_ro B0.out
  simp only at q1 q5
  obtain ⟨a0, a1, a2, a3, a4⟩ := VAt.of_blk B1.out
  simp only [Nat.zero_add] at a0 a1 a2 a3 a4
  go_wp2_with fail
  refine (HE.out wa BE.out).mono ?_
  rintro e w1 ⟨rfl, hb⟩
  have CE := Lib.hid (BE.out.step' hb)
  have CM := Lib.hid (BM.out.step hb)
  clear hb BE B0 B1 BM HE q0 q1 q2 q3 q4 q5 qz a0 a1 a2 a3 a4
  obtain ⟨m0, m1, m2, m3, m4, m5, m6, m7⟩ := blk_mv CM.out
  by_cases hk : K2 = 0
  rotate_left
  · have hkb : (K2 == 0) = false := by simpa using hk
    have HF := Lib.hid (insD_no (lo := M.lo) (hi := M.hi) HK.out hk)
    clear hk
    go_wp2_with fail
    go_ret
    exact ⟨by rw [HF.out]; rfl, CE.out⟩
  subst hk
  have HI := Lib.hid (insD_yes (lo := M.lo) (hi := M.hi) HK.out)
  have HC := Lib.hid (rin48_any M.lo M.hi K1 w1 hlo (by have := HSZ.out; unfold reach; omega))
  go_wp2_with fail
  refine HC.out.mono ?_
  rintro e w2 ⟨rfl, hb⟩
  have CE2 := Lib.hid (CE.out.step' hb)
  clear hb
  go_wp2_with fail
  go_ret
  exact ⟨by rw [HI.out]; rfl, CE2.out⟩

theorem requal_any (x y : Val) (c d : VC) (w : World) (h : RW w c x) (h' : RW w d y) : Calls Tryz.prog 35 #[c.val, d.val] w fun e w' => e = .returned (.bool (cmpV x y == 0)) ∧ Below w.heap.size w w' := by
  have H := Lib.hid h
  have H' := Lib.hid h'
  clear h h'
  go_enter Tryz.func35, Tryz.ntmps35
  go_wp2_with fail
  refine (rcmp_any x y c d _ ((H.out.alloc _).alloc _) ((H'.out.alloc _).alloc _)).mono ?_
  rintro e w1 ⟨rfl, hb⟩
  go_wp2_with fail
  go_ret
  exact ⟨rfl, (((Below.refl _ _).alloc (Nat.le_refl _) _).alloc (by simp) _).step' hb⟩

/-- the identifier of a document -/
def IdOk (F : Nat → Prop) (x : Val) (w : World) (e : Ending) (w' : World) : Prop := ∃ c : VC, e = .returned c.val ∧ RV F w' c (idV x) ∧ Below w.heap.size w w'
set_option maxRecDepth 100000 in
set_option maxHeartbeats 1000000 in
theorem id51_any {F : Nat → Prop} (x : Val) (c : VC) (w : World) (h : RV F w c x) : Calls Tryz.prog 36 #[c.val] w (IdOk F x w) := by
  have H := Lib.hid h
  clear h
  obtain ⟨wa, hwa⟩ : ∃ wa, (w.alloc (Obj.cells c.arr 46)).alloc (Obj.cells VC.zero.arr 46) = wa := ⟨_, rfl⟩
  have B0 : Hid (Blk wa w.heap.size 46 c.arr) := by rw [← hwa]; exact (Blk.new_at rfl).alloc _
  have B1 : Hid (Blk wa (w.heap.size + 1) 46 VC.zero.arr) := by rw [← hwa]; exact Blk.new_at (by simp)
  have BE : Hid (Below w.heap.size w wa) := by rw [← hwa]; exact ((Below.refl _ _).alloc (Nat.le_refl _) _).alloc (by simp) _
  have HWA := Lib.hid hwa
  clear hwa
  go_enter Tryz.func36, Tryz.ntmps36
  go_upto_region 1 with fail
  change Code.wp _ _ _ _ ((w.alloc (Obj.cells c.arr 46)).alloc (Obj.cells VC.zero.arr 46))
  rw [HWA.out]
  clear HWA
  obtain ⟨a0, a1, a2, a3, a4⟩ := VAt.of_blk B0.out
  simp only [Nat.zero_add] at a0 a1 a2 a3 a4
  have HG := Lib.hid (rget_fp (F := fun b => F b ∧ b < w.heap.size) x c idB wa (H.out.lt.step BE.out))
  go_wp2_with fail
  refine HG.out.mono ?_
  rintro e w1 ⟨d, rfl, hr, hb⟩
  have RD := Lib.hid hr
  have C1 := Lib.hid (B1.out.step hb)
  have CE := Lib.hid (BE.out.step' hb)
  clear hb hr HG a0 a1 a2 a3 a4 B0 B1 BE
  go_upto_region 2 with fail
  change Code.wp _ _ _ _ (w1.alloc (Obj.cells d.arr 46))
  have D3 : Hid (Blk (w1.alloc (Obj.cells d.arr 46)) w1.heap.size 46 d.arr) := Blk.new_at rfl
  have D1 := Lib.hid (C1.out.alloc (Obj.cells d.arr 46))
  have DE := Lib.hid (CE.out.alloc CE.out.size (Obj.cells d.arr 46))
  have DR : Hid (RV (fun b => F b ∧ b < w.heap.size) (w1.alloc (Obj.cells d.arr 46)) d (idV x)) := RD.out.alloc _
  clear C1 CE RD
  generalize w1.alloc (Obj.cells d.arr 46) = w2 at *
  generalize w1.heap.size = g3 at *
  obtain ⟨a0, a1, a2, a3, a4⟩ := VAt.of_blk D3.out
  obtain ⟨b0, b1, b2, b3, b4⟩ := VAt.of_blk D1.out
  have z := D1.out.frozen
  simp only [Nat.zero_add] at a0 a1 a2 a3 a4 b0 b1 b2 b3 b4
  have E1 := Lib.hid (D1.out.putV d)
  have EE := Lib.hid (below_setV DE.out (by omega : w.heap.size ≤ w.heap.size + 1) 0 d)
  have ER : Hid (RV F (setV w2 (w.heap.size + 1) 0 d) d (idV x)) := DR.out.keepG fun b hb _ => ⟨hb.1, heap_setV (by omega)⟩
  go_wp2_with fail
  exact bodyPost_ret (results_val rfl _ (w.heap.size + 1) 0 rfl (setV w2 (w.heap.size + 1) 0 d) d (VAt.of_blk E1.out)) rfl ⟨d, rfl, ER.out, EE.out⟩

end Go.Proofs.YtlmmgjgkmbmgpaaGreatDoor



/- Stable sorting in plain words: elements bear their place; the sorted list is the one in which all pairs stand in order. -/
namespace Go.Proofs.YtlmmgjgkmbmgpaaGreatDoor

/-- a comparison that is a total order up to equality -/
structure Ordered {α : Type} (cm : α → α → Int) : Prop where
  anti : ∀ x y, cm y x = -cm x y
  tr : ∀ x y z, TR (cm x y) (cm y z) (cm x z)

section
variable {α : Type} (cm : α → α → Int)

/-- the order of tagged elements -/
def RT (x y : α × Nat) : Prop := cm x.1 y.1 < 0 ∨ cm x.1 y.1 = 0 ∧ x.2 < y.2
variable {cm}
theorem RT.trans (H : Ordered cm) {x y z : α × Nat} (h1 : RT cm x y) (h2 : RT cm y z) : RT cm x z := by
  unfold RT at *
  have := H.tr x.1 y.1 z.1 (by omega) (by omega)
  omega
/-- the tags of a list rise -/
def Tagged (l : List (α × Nat)) : Prop := l.Pairwise fun x y => x.2 < y.2
/-- S is l sorted -/
structure Sorted (cm : α → α → Int) (l S : List (α × Nat)) : Prop where
  perm : S.Perm l
  ord : S.Pairwise (RT cm)
theorem Sorted.nil : Sorted cm ([] : List (α × Nat)) [] := ⟨.nil, .nil⟩
theorem Sorted.one (x : α × Nat) : Sorted cm [x] [x] := ⟨.refl _, by simp⟩
/-- an element has come down to its place -/
theorem Sorted.insert (H : Ordered cm) {P S1 S2 : List (α × Nat)} {x : α × Nat} (h : Sorted cm P (S1 ++ S2)) (ht : ∀ y ∈ P, y.2 < x.2) (h2 : ∀ y ∈ S2, cm x.1 y.1 < 0) (h1 : ∀ y, S1.getLast? = some y → ¬ cm x.1 y.1 < 0) : Sorted cm (P ++ [x]) (S1 ++ x :: S2) := by
  refine ⟨?_, ?_⟩
  · have e1 : (S1 ++ x :: S2).Perm (x :: (S1 ++ S2)) := List.perm_middle
    have e2 : (x :: (S1 ++ S2)).Perm (x :: P) := h.perm.cons x
    have e3 : (x :: P).Perm (P ++ [x]) := (List.perm_append_singleton x P).symm
    exact e1.trans (e2.trans e3)
  · have ho := h.ord
    rw [List.pairwise_append] at ho ⊢
    refine ⟨ho.1, ?_, ?_⟩
    · rw [List.pairwise_cons]
      exact ⟨fun y hy => .inl (h2 y hy), ho.2.1⟩
    · intro y hy z hz
      rcases List.mem_cons.1 hz with rfl | hz
      · have hyP : y ∈ P := h.perm.subset (by simp [hy])
        rcases List.eq_nil_or_concat S1 with rfl | ⟨S, q, rfl⟩
        · simp at hy
        · have hq : ¬ cm z.1 q.1 < 0 := h1 q (by simp)
          have hqP : q ∈ P := h.perm.subset (by simp)
          have hqz : RT cm q z := by
            unfold RT
            have := H.anti z.1 q.1
            have := ht q hqP
            omega
          simp only [List.concat_eq_append, List.mem_append, List.mem_singleton] at hy
          rcases hy with hy | rfl
          · have : RT cm y q := by
              have h3 := ho.1
              simp only [List.concat_eq_append] at h3
              rw [List.pairwise_append] at h3
              exact h3.2.2 y hy q (by simp)
            exact RT.trans H this hqz
          · exact hqz
      · exact ho.2.2 y hy z hz
/-- positions as tags -/
def tagFrom : Nat → List α → List (α × Nat)
  | _, [] => []
  | n, x :: r => (x, n) :: tagFrom (n + 1) r
theorem tagFrom_map (l : List α) : ∀ n, (tagFrom n l).map Prod.fst = l := by
  induction l with
  | nil => intro n; rfl
  | cons x r ih => intro n; simp [tagFrom, ih]
theorem tagFrom_ge (l : List α) : ∀ n, ∀ y ∈ tagFrom n l, n ≤ y.2 := by
  induction l with
  | nil => intro n y hy; simp [tagFrom] at hy
  | cons x r ih =>
    intro n y hy
    simp only [tagFrom, List.mem_cons] at hy
    rcases hy with rfl | hy
    · exact Nat.le_refl _
    · have := ih (n + 1) y hy; omega
theorem tagFrom_tagged (l : List α) : ∀ n, Tagged (tagFrom n l) := by
  induction l with
  | nil => intro n; simp [tagFrom, Tagged]
  | cons x r ih =>
    intro n
    simp only [tagFrom, Tagged, List.pairwise_cons]
    exact ⟨fun y hy => by have := tagFrom_ge r (n + 1) y hy; show n < y.2; omega, ih (n + 1)⟩
end

theorem flat_set {α : Type} {rec : α → List Value} {s : Nat} (hs : ∀ a, (rec a).length = s) : ∀ (l : List α) (j : Nat) (a : α), j < l.length → flat rec (l.set j a) = setList (flat rec l) (j * s) (rec a) := by
  intro l
  induction l with
  | nil => intro j a h; simp at h
  | cons x r ih =>
    intro j a h
    have e : ∀ (y : α) (t : List α), flat rec (y :: t) = rec y ++ flat rec t := fun _ _ => rfl
    have hl := flat_length hs (x :: r)
    have hlr := flat_length hs r
    simp only [List.length_cons] at hl h
    have hm : (j + 1) * s ≤ (r.length + 1) * s := Nat.mul_le_mul_right s (by omega)
    rw [Nat.add_mul] at hm
    rw [setList_eq _ _ _ (by rw [hs, hl]; omega), hs]
    cases j with
    | zero =>
      rw [List.set_cons_zero, e, e]
      simp [hs]
    | succ j =>
      have hm2 : (j + 1) * s ≤ r.length * s := Nat.mul_le_mul_right s (by omega)
      rw [Nat.add_mul] at hm2
      rw [List.set_cons_succ, e, e, ih j a (by omega), setList_eq _ _ _ (by rw [hs, hlr]; omega), hs, show (j + 1) * s = s + j * s by rw [Nat.add_mul]; omega]
      have e1 : (rec x ++ flat rec r).take (s + j * s) = rec x ++ (flat rec r).take (j * s) := by
        have := List.take_length_add_append (l₁ := rec x) (l₂ := flat rec r) (j * s)
        rwa [hs] at this
      have e2 : (rec x ++ flat rec r).drop (s + j * s + s) = (flat rec r).drop (j * s + s) := by
        have := List.drop_length_add_append (l₁ := rec x) (l₂ := flat rec r) (j * s + s)
        rw [hs] at this
        rw [show s + j * s + s = s + (j * s + s) by omega]
        exact this
      rw [e1, e2]
      simp only [List.append_assoc]

end Go.Proofs.YtlmmgjgkmbmgpaaGreatDoor



/- Lists in blocks: plain. -/
namespace Go.Proofs.YtlmmgjgkmbmgpaaGreatDoor

section
variable {α : Type}
def blk (bs q : Nat) (L : List α) : List α := (L.drop (q * bs)).take bs
variable {cm : α → α → Int}
end

end Go.Proofs.YtlmmgjgkmbmgpaaGreatDoor


