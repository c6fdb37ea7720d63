/- Parts of the proof, joined: MgEndsWalk. -/
import Derived.Test.YtlmmgjgkmbmgpaaGreatDoorEb21
import Derived.Test.YtlmmgjgkmbmgpaaGreatDoorEb22
import Derived.Test.YtlmmgjgkmbmgpaaGreatDoorEb23
import Derived.Test.YtlmmgjgkmbmgpaaGreatDoorEb24
import Derived.Test.YtlmmgjgkmbmgpaaGreatDoorEb19
import Derived.Deep.RegionHeld3
/- The walk of MigrateEnds. Printed by gen_mgends.py. -/
namespace Go.Proofs.YtlmmgjgkmbmgpaaGreatDoor
open Go.RowKit
set_option linter.unusedSimpArgs false

theorem ends_in {key : ByteArray} {c : Ch} (h : c.lo.toList = key.toList) (hl : ltO c.lo.toList (hiO c)) : inB key c = true := by
  unfold inB
  rw [← h, bl_irr]
  unfold hiO at hl
  split at hl
  · rename_i h1; rw [h1]; rfl
  · unfold ltO at hl
    rw [hl]
    simp
theorem ends_give {R : Ro} {key : ByteArray} {z : Int} (h : VR R) (hv : R.ver ≤ 1152921504606846976) (he : (giveR R key z).2 = 0) :
    VR (giveR R key z).1 ∧ (∃ (k : Nat) (d : Ch), (giveR R key z).1.cs[k]? = some d ∧ d.lo.toList = key.toList) ∧ (∀ (k : Nat) (d : Ch), (giveR R key z).1.cs[k]? = some d → d.lo.toList = key.toList → d.sh = z) ∧ (giveR R key z).1.ks = R.ks ∧ (giveR R key z).1.ha = R.ha := by
  rcases give_ways (z := z) (key := key) h hv with ⟨h1, _⟩ | ⟨i, c, hi, hlo, h0, h8, hne, hju, hg⟩
  · exact absurd he h1
  have hvr := give_ok h hi h0 h8
  rw [hg]
  refine ⟨hvr, ?_, fun k d hk hd => ?_, rfl, rfl⟩
  · have hl : i < (touch (repl R.cs i 1 [⟨c.lo, c.hi, z, R.ver + 1, c.ju⟩]) c.sh (R.ver + 1)).length := by
      rw [touch_len, ← set_repl (getElem?_lt hi), List.length_set]
      exact getElem?_lt hi
    obtain ⟨e, he1, he2, _, _⟩ := give_get hi i _ (List.getElem?_eq_getElem hl)
    rw [hi] at he1
    injection he1 with he1
    subst he1
    exact ⟨i, _, List.getElem?_eq_getElem hl, by rw [he2]; exact hlo⟩
  · have hk2 : (touch (repl R.cs i 1 [⟨c.lo, c.hi, z, R.ver + 1, c.ju⟩]) c.sh (R.ver + 1))[k]? = some d := hk
    obtain ⟨e, he1, he2, _, he4⟩ := give_get hi k d hk2
    have hke : e.lo.toList = key.toList := by rw [← he2]; exact hd
    have hik : k = i := h.cn.un key he1 hi (ends_in hke (h.cn.lt e (List.mem_of_getElem? he1))) (ends_in hlo (h.cn.lt c (List.mem_of_getElem? hi)))
    rw [he4, if_pos hik]
/-- the last chunk so far that begins at lo -/
def KkI (l : List Ch) (lo : ByteArray) (j : Nat) (kk : Int) : Prop := (kk = -1 ∧ ∀ (i : Nat) (c : Ch), i < j → l[i]? = some c → c.lo.toList ≠ lo.toList) ∨ ∃ i : Nat, kk = i ∧ ∃ c, l[i]? = some c ∧ c.lo.toList = lo.toList
theorem KkI.start (l : List Ch) (lo : ByteArray) : KkI l lo 0 (-1) := .inl ⟨rfl, fun i c h => absurd h (by omega)⟩
theorem KkI.no {l : List Ch} {lo : ByteArray} {j : Nat} {kk : Int} {c : Ch} (h : KkI l lo j kk) (hc : l[j]? = some c) (hn : c.lo.toList ≠ lo.toList) : KkI l lo (j + 1) kk := by
  rcases h with ⟨h1, h2⟩ | h
  · refine .inl ⟨h1, fun i d hi hd => ?_⟩
    rcases Nat.lt_or_ge i j with h | h
    · exact h2 i d h hd
    · have : i = j := by omega
      subst this
      rw [hc] at hd
      cases hd
      exact hn
  · exact .inr h
theorem KkI.yes {l : List Ch} {lo : ByteArray} {j : Nat} {c : Ch} (hc : l[j]? = some c) (hn : c.lo.toList = lo.toList) : KkI l lo (j + 1) (j : Int) := .inr ⟨j, rfl, c, hc, hn⟩
theorem KkI.found {l : List Ch} {lo : ByteArray} {n : Nat} {kk : Int} (h : KkI l lo n kk) (hn : n = l.length) (hx : ∃ (k : Nat) (d : Ch), l[k]? = some d ∧ d.lo.toList = lo.toList) : ∃ i : Nat, kk = i ∧ ∃ c, l[i]? = some c ∧ c.lo.toList = lo.toList := by
  rcases h with ⟨_, h2⟩ | h
  · obtain ⟨k, d, hk, hd⟩ := hx
    exact absurd hd (h2 k d (by rw [hn]; exact (List.getElem?_eq_some_iff.1 hk).1) hk)
  · exact h
theorem VR.paths {R : Ro} (h : VR R) : ∀ q ∈ R.ks, pathB q.p = true := by
  have hk := h.ke
  unfold keyE at hk
  split at hk
  · rename_i h1; exact absurd hk h1
  · rename_i h1
    have h3 : ordE R.ks = 0 := by simpa using h1
    unfold ordE at h3
    split at h3
    · cases h3
    · exact ordL_path R.ks [] h3
theorem remL_perm {R : Ro} {sp lo hi : ByteArray} {docs : List Val} {l : List Wt} (h : StW (remL R sp lo hi docs) l) : ∃ m : List Val, l = m.map (remW sp) ∧ m.Perm ((docs.filter (insD R lo hi)).map idV) := by
  have hp := h.perm
  have hall : ∀ y ∈ l, y = remW sp y.key := fun y hy => by
    obtain ⟨x, _, rfl⟩ := List.mem_map.1 (hp.mem_iff.1 hy)
    rfl
  refine ⟨l.map (·.key), ?_, ?_⟩
  · rw [List.map_map]
    have : ∀ l' : List Wt, (∀ y ∈ l', y = remW sp y.key) → l' = l'.map (remW sp ∘ fun x => x.key) := by
      intro l' h'
      induction l' with
      | nil => rfl
      | cons a r ih => rw [List.map_cons, ← ih fun y hy => h' y (by simp [hy])]; congr 1; exact h' a (by simp)
    exact this l hall
  · have := hp.map (fun y : Wt => y.key)
    unfold remL at this
    rw [List.map_map] at this
    exact this

set_option maxRecDepth 100000 in
set_option maxHeartbeats 16000000 in
theorem migrateEnds_walk (R : Ro) (a : RA) (lo : ByteArray) (tt ea : Int) (DA : Option Addr) (dn dc : Nat) (ps : List PV) (XA : Option Addr) (xn xc : Nat) (xs : List PX) (w : World) (hT : Tabs w) (h : RR w a R) (hlo : lo.size ≤ reach) (hd : SL (fun _ => True) w DA dn dc ps) (_hx : XS w XA xn xc xs) :
    Calls Tryz.prog 4 #[.agg (sarr a R lo tt ea DA dn dc XA xn xc)] w fun e w' => e = .returned (.bool true) ∧ Below w.heap.size w w' := by
  obtain ⟨i0, hi0, hy0, hy1, hy2⟩ := info_parts info_value
  obtain ⟨KA, kn, kc, CA, cn, cc⟩ := a
  have HT := Lib.hid hT
  have HRR := Lib.hid h
  have HLO := Lib.hid hlo
  have HD := Lib.hid hd
  have HDN : Hid (dn = ps.length) := hd.sr.ln
  have HCN : Hid (cn = R.cs.length) := h.cs.ln
  have HAW := Lib.hid fun (wr : World) (hb : Below w.heap.size w wr) => awake51_any wr (hT.step hb)
  clear hT h hlo hd
  obtain ⟨wa, hwa⟩ : ∃ wa, w.alloc (Obj.cells (sarr (⟨KA, kn, kc, CA, cn, cc⟩ : RA) R lo tt ea DA dn dc XA xn xc) 31) = wa := ⟨_, rfl⟩
  have BX : Hid (Blk wa w.heap.size 31 (sarr (⟨KA, kn, kc, CA, cn, cc⟩ : RA) R lo tt ea DA dn dc XA xn xc)) := by rw [← hwa]; exact Blk.new_at rfl
  have BE : Hid (Below w.heap.size w wa) := by rw [← hwa]; exact (Below.refl _ _).alloc (Nat.le_refl _) _
  have HWA := Lib.hid hwa
  clear hwa
  go_enter Tryz.func4, Tryz.ntmps4
  go_upto_region 1 with fail
  change Code.wp _ _ _ _ (w.alloc (Obj.cells (sarr (⟨KA, kn, kc, CA, cn, cc⟩ : RA) R lo tt ea DA dn dc XA xn xc) 31))
  rw [HWA.out]
  clear HWA
  have x0 : wa.cell? ⟨w.heap.size, 0, none⟩ = some (.string R.sp) := BX.out.cell 0
  have x1 : wa.cell? ⟨w.heap.size, 1, none⟩ = some (.slice KA kn kc) := BX.out.cell 1
  have x2 : wa.cell? ⟨w.heap.size, 2, none⟩ = some (.bool R.ha) := BX.out.cell 2
  have x3 : wa.cell? ⟨w.heap.size, 3, none⟩ = some (.int .i64 R.ep) := BX.out.cell 3
  have x4 : wa.cell? ⟨w.heap.size, 4, none⟩ = some (.int .i64 R.ver) := BX.out.cell 4
  have x5 : wa.cell? ⟨w.heap.size, 5, none⟩ = some (.slice CA cn cc) := BX.out.cell 5
  have x6 : wa.cell? ⟨w.heap.size, 6, none⟩ = some (.string lo) := BX.out.cell 6
  have x7 : wa.cell? ⟨w.heap.size, 7, none⟩ = some (.int .i64 tt) := BX.out.cell 7
  have x8 : wa.cell? ⟨w.heap.size, 8, none⟩ = some (.slice DA dn dc) := BX.out.cell 8
  have x9 : wa.cell? ⟨w.heap.size, 9, none⟩ = some (.slice XA xn xc) := BX.out.cell 9
  have x10 : wa.cell? ⟨w.heap.size, 10, none⟩ = some (.int .i64 ea) := BX.out.cell 10
  by_cases hcn : cn ≤ 64
  rotate_left
  · have hc2 : (64 : Int) < (cn : Int) := by omega
    clear hcn
    go_wp2_with fail
    refine (HAW.out _ BE.out).mono ?_
    rintro e wz ⟨rfl, hbz⟩
    have BZ := Lib.hid ((BE.out).step' hbz)
    clear hbz
    go_wp2_with fail
    go_ret
    exact ⟨rfl, BZ.out⟩
  obtain ⟨re, hre⟩ : ∃ re, routE R = re := ⟨_, rfl⟩
  have HV := rvalid49_any R (⟨KA, kn, kc, CA, cn, cc⟩ : RA) wa (HRR.out.step BE.out)
  rw [hre] at HV
  have HV2 := Lib.hid HV
  have HRE := Lib.hid hre
  clear hre HV
  have hcn2 : decide ((64 : Int) < (cn : Int)) = false := by simp; omega
  clear hcn
  go_wp2_with fail
  refine HV2.out.mono ?_
  rintro e w1 ⟨rfl, hb⟩
  replace BX := Lib.hid (BX.out.step hb)
  replace BE := Lib.hid (BE.out.step' hb)
  clear x0 x1 x2 x3 x4 x5 x6 x7 x8 x9 x10
  clear hb HV2
  have x0 : w1.cell? ⟨w.heap.size, 0, none⟩ = some (.string R.sp) := BX.out.cell 0
  have x1 : w1.cell? ⟨w.heap.size, 1, none⟩ = some (.slice KA kn kc) := BX.out.cell 1
  have x2 : w1.cell? ⟨w.heap.size, 2, none⟩ = some (.bool R.ha) := BX.out.cell 2
  have x3 : w1.cell? ⟨w.heap.size, 3, none⟩ = some (.int .i64 R.ep) := BX.out.cell 3
  have x4 : w1.cell? ⟨w.heap.size, 4, none⟩ = some (.int .i64 R.ver) := BX.out.cell 4
  have x5 : w1.cell? ⟨w.heap.size, 5, none⟩ = some (.slice CA cn cc) := BX.out.cell 5
  have x6 : w1.cell? ⟨w.heap.size, 6, none⟩ = some (.string lo) := BX.out.cell 6
  have x7 : w1.cell? ⟨w.heap.size, 7, none⟩ = some (.int .i64 tt) := BX.out.cell 7
  have x8 : w1.cell? ⟨w.heap.size, 8, none⟩ = some (.slice DA dn dc) := BX.out.cell 8
  have x9 : w1.cell? ⟨w.heap.size, 9, none⟩ = some (.slice XA xn xc) := BX.out.cell 9
  have x10 : w1.cell? ⟨w.heap.size, 10, none⟩ = some (.int .i64 ea) := BX.out.cell 10
  by_cases hr0 : re = 0
  rotate_left
  · have hrb : (re == 0) = false := by simpa using hr0
    go_wp2_with fail
    refine (HAW.out _ BE.out).mono ?_
    rintro e wz ⟨rfl, hbz⟩
    have BZ := Lib.hid ((BE.out).step' hbz)
    clear hbz
    go_wp2_with fail
    go_ret
    exact ⟨rfl, BZ.out⟩
  subst hr0
  have HVR := Lib.hid ((routE_iff R).1 HRE.out)
  have HKE := Lib.hid (keyE_partsM HVR.out.ke)
  by_cases hver : R.ver ≤ 1152921504606846976
  rotate_left
  · have hv2 : (1152921504606846976 : Int) < R.ver := by omega
    clear hver
    go_wp2_with fail
    refine (HAW.out _ BE.out).mono ?_
    rintro e wz ⟨rfl, hbz⟩
    have BZ := Lib.hid ((BE.out).step' hbz)
    clear hbz
    go_wp2_with fail
    go_ret
    exact ⟨rfl, BZ.out⟩
  have hv2 : decide ((1152921504606846976 : Int) < R.ver) = false := by simp; omega
  have HVER := Lib.hid hver
  clear hver
  by_cases hdn : dn ≤ 20
  rotate_left
  · have hd2 : (20 : Int) < (dn : Int) := by omega
    clear hdn
    go_wp2_with fail
    refine (HAW.out _ BE.out).mono ?_
    rintro e wz ⟨rfl, hbz⟩
    have BZ := Lib.hid ((BE.out).step' hbz)
    clear hbz
    go_wp2_with fail
    go_ret
    exact ⟨rfl, BZ.out⟩
  have hd2 : decide ((20 : Int) < (dn : Int)) = false := by simp; omega
  go_wp2_with fail
  refine (distinct_any ps DA dn dc w1 (HD.out.step BE.out) (by omega)).mono ?_
  rintro e w2 ⟨db, rfl, hdist, hb⟩
  have HDI := Lib.hid hdist
  replace BX := Lib.hid (BX.out.step hb)
  replace BE := Lib.hid (BE.out.step' hb)
  clear x0 x1 x2 x3 x4 x5 x6 x7 x8 x9 x10
  clear hb hdist
  cases db
  · simp only [Bool.not_false]
    go_wp2_with fail
    refine (HAW.out _ BE.out).mono ?_
    rintro e wz ⟨rfl, hbz⟩
    have BZ := Lib.hid ((BE.out).step' hbz)
    clear hbz
    go_wp2_with fail
    go_ret
    exact ⟨rfl, BZ.out⟩
  simp only [Bool.not_true]
  have HDIS := Lib.hid (HDI.out rfl)
  clear HDI
  have x0 : w2.cell? ⟨w.heap.size, 0, none⟩ = some (.string R.sp) := BX.out.cell 0
  have x1 : w2.cell? ⟨w.heap.size, 1, none⟩ = some (.slice KA kn kc) := BX.out.cell 1
  have x2 : w2.cell? ⟨w.heap.size, 2, none⟩ = some (.bool R.ha) := BX.out.cell 2
  have x3 : w2.cell? ⟨w.heap.size, 3, none⟩ = some (.int .i64 R.ep) := BX.out.cell 3
  have x4 : w2.cell? ⟨w.heap.size, 4, none⟩ = some (.int .i64 R.ver) := BX.out.cell 4
  have x5 : w2.cell? ⟨w.heap.size, 5, none⟩ = some (.slice CA cn cc) := BX.out.cell 5
  have x6 : w2.cell? ⟨w.heap.size, 6, none⟩ = some (.string lo) := BX.out.cell 6
  have x7 : w2.cell? ⟨w.heap.size, 7, none⟩ = some (.int .i64 tt) := BX.out.cell 7
  have x8 : w2.cell? ⟨w.heap.size, 8, none⟩ = some (.slice DA dn dc) := BX.out.cell 8
  have x9 : w2.cell? ⟨w.heap.size, 9, none⟩ = some (.slice XA xn xc) := BX.out.cell 9
  have x10 : w2.cell? ⟨w.heap.size, 10, none⟩ = some (.int .i64 ea) := BX.out.cell 10
  have hSt := start_any R (⟨KA, kn, kc, CA, cn, cc⟩ : RA) lo tt w2 (HRR.out.step BE.out)
  obtain ⟨⟨M0, e0⟩, hst⟩ : ∃ z, startR R lo tt = z := ⟨_, rfl⟩
  have hok := startR_ok (R := R) (lo := lo) (t := tt)
  rw [hst] at hSt hok
  have HS := Lib.hid hSt
  have HOK := Lib.hid hok
  clear hSt hst hok
  go_wp2_with fail
  clear hv2
  refine HS.out.mono ?_
  rintro e w3 ⟨rfl, hb⟩
  replace BX := Lib.hid (BX.out.step hb)
  replace BE := Lib.hid (BE.out.step' hb)
  clear x0 x1 x2 x3 x4 x5 x6 x7 x8 x9 x10
  clear hb HS
  have BXW := BX
  go_upto_region 4 with fail
  change Code.wp _ _ _ _ (w3.alloc (Obj.cells (marr MA.zero M0) 37))
  have BM : Hid (Blk (w3.alloc (Obj.cells (marr MA.zero M0) 37)) w3.heap.size 37 (marr MA.zero M0)) := Blk.new_at rfl
  replace BX := Lib.hid (BX.out.alloc (Obj.cells (marr MA.zero M0) 37))
  have HG1 : Hid (w.heap.size < w3.heap.size) := BXW.out.lt
  replace BE := Lib.hid (BE.out.alloc BE.out.size (Obj.cells (marr MA.zero M0) 37))
  generalize w3.alloc (Obj.cells (marr MA.zero M0) 37) = w4 at *
  generalize w3.heap.size = gm at *
  by_cases he0 : e0 = 0
  rotate_left
  · have heb : (e0 == 0) = false := by simpa using he0
    go_wp2_with fail
    refine (HAW.out _ BE.out).mono ?_
    rintro e wz ⟨rfl, hbz⟩
    have BZ := Lib.hid ((BE.out).step' hbz)
    clear hbz
    go_wp2_with fail
    go_ret
    exact ⟨rfl, BZ.out⟩
  subst he0
  have HSD := Lib.hid (HOK.out rfl)
  clear HOK BXW
  have HSP0 : Hid (M0.sp.size ≤ reach) := by rw [Hid, HSD.out.sp]; exact HRR.out.sp
  have HLO0 : Hid (M0.lo.size ≤ reach) := by rw [Hid, HSD.out.lo]; exact HLO.out
  have HAB := Lib.hid (abort_any M0 MA.zero w4 (by rw [HSD.out.st]; decide) (by rw [HSD.out.st]; decide))
  go_wp2_with (refine wpList_load_row rfl 37 _ rfl gm rfl _ _ _ _ BM.out Tryz.underlying37 rfl (by rw [sizeM]; rfl) ?_)
  refine HAB.out.mono ?_
  rintro e w5 ⟨rfl, hb⟩
  replace BX := Lib.hid (BX.out.step hb)
  replace BM := Lib.hid (BM.out.step hb)
  replace BE := Lib.hid (BE.out.step' hb)
  clear hb HAB
  go_upto_region 7 with fail
  change Code.wp _ _ _ _ (w5.alloc (Obj.cells (marr MA.zero (⟨M0.sp, M0.lo, M0.hi, M0.fr, M0.tt, 5, [], []⟩ : Mv)) 37))
  have BA : Hid (Blk (w5.alloc (Obj.cells (marr MA.zero (⟨M0.sp, M0.lo, M0.hi, M0.fr, M0.tt, 5, [], []⟩ : Mv)) 37)) w5.heap.size 37 (marr MA.zero (⟨M0.sp, M0.lo, M0.hi, M0.fr, M0.tt, 5, [], []⟩ : Mv))) := Blk.new_at rfl
  replace BX := Lib.hid (BX.out.alloc (Obj.cells (marr MA.zero (⟨M0.sp, M0.lo, M0.hi, M0.fr, M0.tt, 5, [], []⟩ : Mv)) 37))
  replace BM := Lib.hid (BM.out.alloc (Obj.cells (marr MA.zero (⟨M0.sp, M0.lo, M0.hi, M0.fr, M0.tt, 5, [], []⟩ : Mv)) 37))
  replace BE := Lib.hid (BE.out.alloc BE.out.size (Obj.cells (marr MA.zero (⟨M0.sp, M0.lo, M0.hi, M0.fr, M0.tt, 5, [], []⟩ : Mv)) 37))
  generalize w5.alloc (Obj.cells (marr MA.zero (⟨M0.sp, M0.lo, M0.hi, M0.fr, M0.tt, 5, [], []⟩ : Mv)) 37) = w6 at *
  generalize w5.heap.size = ga at *
  have HAN := Lib.hid (abort_no (⟨M0.sp, M0.lo, M0.hi, M0.fr, M0.tt, 5, [], []⟩ : Mv) MA.zero w6 rfl)
  go_wp2_with (refine wpList_load_row rfl 37 _ rfl ga rfl _ _ _ _ BA.out Tryz.underlying37 rfl (by rw [sizeM]; rfl) ?_)
  refine HAN.out.mono ?_
  rintro e w7 ⟨rfl, hb⟩
  replace BX := Lib.hid (BX.out.step hb)
  replace BM := Lib.hid (BM.out.step hb)
  replace BA := Lib.hid (BA.out.step hb)
  replace BE := Lib.hid (BE.out.step' hb)
  clear hb HAN
  go_upto_region 8 with fail
  change Code.wp _ _ _ _ (w7.alloc (Obj.cells (marr MA.zero Mv.zero) 37))
  replace BX := Lib.hid (BX.out.alloc (Obj.cells (marr MA.zero Mv.zero) 37))
  replace BM := Lib.hid (BM.out.alloc (Obj.cells (marr MA.zero Mv.zero) 37))
  replace BA := Lib.hid (BA.out.alloc (Obj.cells (marr MA.zero Mv.zero) 37))
  replace BE := Lib.hid (BE.out.alloc BE.out.size (Obj.cells (marr MA.zero Mv.zero) 37))
  generalize w7.alloc (Obj.cells (marr MA.zero Mv.zero) 37) = w8 at *
  generalize w7.heap.size = gb at *
  have x0 : w8.cell? ⟨w.heap.size, 0, none⟩ = some (.string R.sp) := BX.out.cell 0
  have x1 : w8.cell? ⟨w.heap.size, 1, none⟩ = some (.slice KA kn kc) := BX.out.cell 1
  have x2 : w8.cell? ⟨w.heap.size, 2, none⟩ = some (.bool R.ha) := BX.out.cell 2
  have x3 : w8.cell? ⟨w.heap.size, 3, none⟩ = some (.int .i64 R.ep) := BX.out.cell 3
  have x4 : w8.cell? ⟨w.heap.size, 4, none⟩ = some (.int .i64 R.ver) := BX.out.cell 4
  have x5 : w8.cell? ⟨w.heap.size, 5, none⟩ = some (.slice CA cn cc) := BX.out.cell 5
  have x6 : w8.cell? ⟨w.heap.size, 6, none⟩ = some (.string lo) := BX.out.cell 6
  have x7 : w8.cell? ⟨w.heap.size, 7, none⟩ = some (.int .i64 tt) := BX.out.cell 7
  have x8 : w8.cell? ⟨w.heap.size, 8, none⟩ = some (.slice DA dn dc) := BX.out.cell 8
  have x9 : w8.cell? ⟨w.heap.size, 9, none⟩ = some (.slice XA xn xc) := BX.out.cell 9
  have x10 : w8.cell? ⟨w.heap.size, 10, none⟩ = some (.int .i64 ea) := BX.out.cell 10
  have HCN0 := Lib.hid (mgcopy_no (⟨M0.sp, M0.lo, M0.hi, M0.fr, M0.tt, 5, [], []⟩ : Mv) MA.zero R (⟨KA, kn, kc, CA, cn, cc⟩ : RA) DA dn dc w8 rfl)
  go_wp2_with (refine wpList_load_row rfl 37 _ rfl ga rfl _ _ _ _ BA.out Tryz.underlying37 rfl (by rw [sizeM]; rfl) ?_)
  refine HCN0.out.mono ?_
  rintro e w9 ⟨rfl, hb⟩
  replace BX := Lib.hid (BX.out.step hb)
  replace BM := Lib.hid (BM.out.step hb)
  replace BA := Lib.hid (BA.out.step hb)
  replace BE := Lib.hid (BE.out.step' hb)
  clear x0 x1 x2 x3 x4 x5 x6 x7 x8 x9 x10
  clear hb HCN0
  go_upto_region 9 with fail
  change Code.wp _ _ _ _ (w9.alloc (Obj.cells (marr MA.zero Mv.zero) 37))
  replace BX := Lib.hid (BX.out.alloc (Obj.cells (marr MA.zero Mv.zero) 37))
  replace BM := Lib.hid (BM.out.alloc (Obj.cells (marr MA.zero Mv.zero) 37))
  replace BA := Lib.hid (BA.out.alloc (Obj.cells (marr MA.zero Mv.zero) 37))
  replace BE := Lib.hid (BE.out.alloc BE.out.size (Obj.cells (marr MA.zero Mv.zero) 37))
  generalize w9.alloc (Obj.cells (marr MA.zero Mv.zero) 37) = w10 at *
  generalize w9.heap.size = gc at *
  have x0 : w10.cell? ⟨w.heap.size, 0, none⟩ = some (.string R.sp) := BX.out.cell 0
  have x1 : w10.cell? ⟨w.heap.size, 1, none⟩ = some (.slice KA kn kc) := BX.out.cell 1
  have x2 : w10.cell? ⟨w.heap.size, 2, none⟩ = some (.bool R.ha) := BX.out.cell 2
  have x3 : w10.cell? ⟨w.heap.size, 3, none⟩ = some (.int .i64 R.ep) := BX.out.cell 3
  have x4 : w10.cell? ⟨w.heap.size, 4, none⟩ = some (.int .i64 R.ver) := BX.out.cell 4
  have x5 : w10.cell? ⟨w.heap.size, 5, none⟩ = some (.slice CA cn cc) := BX.out.cell 5
  have x6 : w10.cell? ⟨w.heap.size, 6, none⟩ = some (.string lo) := BX.out.cell 6
  have x7 : w10.cell? ⟨w.heap.size, 7, none⟩ = some (.int .i64 tt) := BX.out.cell 7
  have x8 : w10.cell? ⟨w.heap.size, 8, none⟩ = some (.slice DA dn dc) := BX.out.cell 8
  have x9 : w10.cell? ⟨w.heap.size, 9, none⟩ = some (.slice XA xn xc) := BX.out.cell 9
  have x10 : w10.cell? ⟨w.heap.size, 10, none⟩ = some (.int .i64 ea) := BX.out.cell 10
  have HCO0 := Lib.hid (commit_no (⟨M0.sp, M0.lo, M0.hi, M0.fr, M0.tt, 5, [], []⟩ : Mv) MA.zero R (⟨KA, kn, kc, CA, cn, cc⟩ : RA) w10 rfl)
  go_wp2_with (refine wpList_load_row rfl 37 _ rfl ga rfl _ _ _ _ BA.out Tryz.underlying37 rfl (by rw [sizeM]; rfl) ?_)
  refine HCO0.out.mono ?_
  rintro e w11 ⟨rfl, hb⟩
  replace BX := Lib.hid (BX.out.step hb)
  replace BM := Lib.hid (BM.out.step hb)
  replace BE := Lib.hid (BE.out.step' hb)
  clear x0 x1 x2 x3 x4 x5 x6 x7 x8 x9 x10
  clear hb HCO0 BA
  go_upto_region 10 with fail
  obtain ⟨w12, hw12⟩ : ∃ w12, (w11.alloc (Obj.cells (marr MA.zero Mv.zero) 37)).alloc (Obj.cells (rarr RA.zero Ro.zero) 27) = w12 := ⟨_, rfl⟩
  have hb12 : Below w11.heap.size w11 w12 := by rw [← hw12]; exact ((Below.refl _ _).alloc (Nat.le_refl _) _).alloc (by simp) _
  change Code.wp _ _ _ _ ((w11.alloc (Obj.cells (marr MA.zero Mv.zero) 37)).alloc (Obj.cells (rarr RA.zero Ro.zero) 27))
  rw [hw12]
  replace BX := Lib.hid (BX.out.step hb12)
  replace BM := Lib.hid (BM.out.step hb12)
  replace BE := Lib.hid (BE.out.step' hb12)
  clear hw12 hb12
  have x0 : w12.cell? ⟨w.heap.size, 0, none⟩ = some (.string R.sp) := BX.out.cell 0
  have x1 : w12.cell? ⟨w.heap.size, 1, none⟩ = some (.slice KA kn kc) := BX.out.cell 1
  have x2 : w12.cell? ⟨w.heap.size, 2, none⟩ = some (.bool R.ha) := BX.out.cell 2
  have x3 : w12.cell? ⟨w.heap.size, 3, none⟩ = some (.int .i64 R.ep) := BX.out.cell 3
  have x4 : w12.cell? ⟨w.heap.size, 4, none⟩ = some (.int .i64 R.ver) := BX.out.cell 4
  have x5 : w12.cell? ⟨w.heap.size, 5, none⟩ = some (.slice CA cn cc) := BX.out.cell 5
  have x6 : w12.cell? ⟨w.heap.size, 6, none⟩ = some (.string lo) := BX.out.cell 6
  have x7 : w12.cell? ⟨w.heap.size, 7, none⟩ = some (.int .i64 tt) := BX.out.cell 7
  have x8 : w12.cell? ⟨w.heap.size, 8, none⟩ = some (.slice DA dn dc) := BX.out.cell 8
  have x9 : w12.cell? ⟨w.heap.size, 9, none⟩ = some (.slice XA xn xc) := BX.out.cell 9
  have x10 : w12.cell? ⟨w.heap.size, 10, none⟩ = some (.int .i64 ea) := BX.out.cell 10
  have HON := Lib.hid (orph_no M0 MA.zero R (⟨KA, kn, kc, CA, cn, cc⟩ : RA) DA dn dc w12 (by rw [HSD.out.st]; decide) (by rw [HSD.out.st]; decide))
  obtain ⟨m0, m1, m2, m3, m4, m5, m6, m7⟩ := blk_mv BM.out
  (try simp only at m6 m7)
  go_wp2_with fail
  refine HON.out.mono ?_
  rintro e w13 ⟨rfl, hb⟩
  replace BX := Lib.hid (BX.out.step hb)
  replace BM := Lib.hid (BM.out.step hb)
  replace BE := Lib.hid (BE.out.step' hb)
  clear x0 x1 x2 x3 x4 x5 x6 x7 x8 x9 x10
  clear hb HON m0 m1 m2 m3 m4 m5 m6 m7
  have x0 : w13.cell? ⟨w.heap.size, 0, none⟩ = some (.string R.sp) := BX.out.cell 0
  have x1 : w13.cell? ⟨w.heap.size, 1, none⟩ = some (.slice KA kn kc) := BX.out.cell 1
  have x2 : w13.cell? ⟨w.heap.size, 2, none⟩ = some (.bool R.ha) := BX.out.cell 2
  have x3 : w13.cell? ⟨w.heap.size, 3, none⟩ = some (.int .i64 R.ep) := BX.out.cell 3
  have x4 : w13.cell? ⟨w.heap.size, 4, none⟩ = some (.int .i64 R.ver) := BX.out.cell 4
  have x5 : w13.cell? ⟨w.heap.size, 5, none⟩ = some (.slice CA cn cc) := BX.out.cell 5
  have x6 : w13.cell? ⟨w.heap.size, 6, none⟩ = some (.string lo) := BX.out.cell 6
  have x7 : w13.cell? ⟨w.heap.size, 7, none⟩ = some (.int .i64 tt) := BX.out.cell 7
  have x8 : w13.cell? ⟨w.heap.size, 8, none⟩ = some (.slice DA dn dc) := BX.out.cell 8
  have x9 : w13.cell? ⟨w.heap.size, 9, none⟩ = some (.slice XA xn xc) := BX.out.cell 9
  have x10 : w13.cell? ⟨w.heap.size, 10, none⟩ = some (.int .i64 ea) := BX.out.cell 10
  have HCO := Lib.hid (mgcopy_any M0 R (⟨KA, kn, kc, CA, cn, cc⟩ : RA) [] none 0 0 w13 (HT.out.step BE.out) (HRR.out.step BE.out) HKE.out.1 SL.nil (by omega) HSP0.out HSD.out.st HSD.out.cp HSD.out.ch)
  go_wp2_with (refine wpList_load_row rfl 37 _ rfl gm rfl _ _ _ _ BM.out Tryz.underlying37 rfl (by rw [sizeM]; rfl) ?_)
  refine HCO.out.mono ?_
  rintro e w14 ⟨mb, rfl, hmr, hb⟩
  have hcp0 : mb.cn = 0 := by
    obtain ⟨qs, e1, e2⟩ := hmr.cp
    have : qs = [] := List.map_eq_nil_iff.1 e1
    subst this
    exact e2.sr.ln
  have hch0 : mb.hn = 0 := by
    obtain ⟨qs, e1, e2⟩ := hmr.ch
    have : qs = [] := List.map_eq_nil_iff.1 e1
    subst this
    exact e2.sr.ln
  replace BX := Lib.hid (BX.out.step hb)
  replace BM := Lib.hid (BM.out.step hb)
  replace BE := Lib.hid (BE.out.step' hb)
  have HCP0 := Lib.hid hcp0
  have HCH0 := Lib.hid hch0
  clear x0 x1 x2 x3 x4 x5 x6 x7 x8 x9 x10
  clear hmr hb HCO hcp0 hch0
  go_upto_region 13 with (refine wpList_store_row rfl 37 _ _ rfl gm (marr mb (mvC M0 [] [])) rfl rfl 37 _ BM.out (by rw [sizeM]; rfl) rfl (marr_all _ _) ?_)
  replace BX := Lib.hid (BX.out.row_far (by have := HG1.out; omega : w.heap.size ≠ gm) (marr mb (mvC M0 [] [])))
  replace BE := Lib.hid (below_row BE.out (by have := HG1.out; omega : w.heap.size ≤ gm) (marr mb (mvC M0 [] [])))
  replace BM := Lib.hid (BM.out.row (marr mb (mvC M0 [] [])))
  generalize w14.setRow gm (marr mb (mvC M0 [] [])) = w15 at *
  have x0 : w15.cell? ⟨w.heap.size, 0, none⟩ = some (.string R.sp) := BX.out.cell 0
  have x1 : w15.cell? ⟨w.heap.size, 1, none⟩ = some (.slice KA kn kc) := BX.out.cell 1
  have x2 : w15.cell? ⟨w.heap.size, 2, none⟩ = some (.bool R.ha) := BX.out.cell 2
  have x3 : w15.cell? ⟨w.heap.size, 3, none⟩ = some (.int .i64 R.ep) := BX.out.cell 3
  have x4 : w15.cell? ⟨w.heap.size, 4, none⟩ = some (.int .i64 R.ver) := BX.out.cell 4
  have x5 : w15.cell? ⟨w.heap.size, 5, none⟩ = some (.slice CA cn cc) := BX.out.cell 5
  have x6 : w15.cell? ⟨w.heap.size, 6, none⟩ = some (.string lo) := BX.out.cell 6
  have x7 : w15.cell? ⟨w.heap.size, 7, none⟩ = some (.int .i64 tt) := BX.out.cell 7
  have x8 : w15.cell? ⟨w.heap.size, 8, none⟩ = some (.slice DA dn dc) := BX.out.cell 8
  have x9 : w15.cell? ⟨w.heap.size, 9, none⟩ = some (.slice XA xn xc) := BX.out.cell 9
  have x10 : w15.cell? ⟨w.heap.size, 10, none⟩ = some (.int .i64 ea) := BX.out.cell 10
  have HGE := ends_give (key := lo) (z := tt) HVR.out HVER.out HSD.out.gi
  have HCR := commit_rr (mvC M0 [] []) mb R (⟨KA, kn, kc, CA, cn, cc⟩ : RA) w15 (HRR.out.step BE.out) rfl HCP0.out HCH0.out (by show (giveR R M0.lo M0.tt).2 = 0; rw [HSD.out.lo, HSD.out.tt]; exact HSD.out.gi) (by show ∀ q ∈ (giveR R M0.lo M0.tt).1.ks, pathB q.p = true; rw [HSD.out.lo, HSD.out.tt, HGE.2.2.2.1]; exact HVR.out.paths)
  have e1 : giveR R (mvC M0 [] []).lo (mvC M0 [] []).tt = giveR R lo tt := by show giveR R M0.lo M0.tt = _; rw [HSD.out.lo, HSD.out.tt]
  rw [e1] at HCR
  clear e1
  obtain ⟨G, hG⟩ : ∃ G, (giveR R lo tt).1 = G := ⟨_, rfl⟩
  rw [hG] at HCR HGE
  have HCR2 := Lib.hid HCR
  have HGV : Hid (VR G) := HGE.1
  have HGX : Hid (∃ (k : Nat) (d : Ch), G.cs[k]? = some d ∧ d.lo.toList = lo.toList) := HGE.2.1
  have HGS : Hid (∀ (k : Nat) (d : Ch), G.cs[k]? = some d → d.lo.toList = lo.toList → d.sh = tt) := HGE.2.2.1
  have HGK : Hid (G.ks = R.ks) := HGE.2.2.2.1
  have HGH : Hid (G.ha = R.ha) := HGE.2.2.2.2
  clear HCR HGE hG
  go_wp2_with (refine wpList_load_row rfl 37 _ rfl gm rfl _ _ _ _ BM.out Tryz.underlying37 rfl (by rw [sizeM]; rfl) ?_)
  refine HCR2.out.mono ?_
  rintro e w16 ⟨⟨KA1, kn1, kc1, CA1, cn1, cc1⟩, rfl, hrr, hb⟩
  replace BX := Lib.hid (BX.out.step hb)
  replace BM := Lib.hid (BM.out.step hb)
  replace BE := Lib.hid (BE.out.step' hb)
  clear x0 x1 x2 x3 x4 x5 x6 x7 x8 x9 x10
  have GP : Hid (∀ q ∈ G.ks, pathB q.p = true) := by rw [Hid, HGK.out]; exact HVR.out.paths
  have RW0 : Hid (RR (w16.alloc (Obj.cells (rarr RA.zero Ro.zero) 27)) (⟨KA1, kn1, kc1, CA1, cn1, cc1⟩ : RA) G) := Lib.hid (hrr.alloc _)
  have BR : Hid (Blk (w16.alloc (Obj.cells (rarr RA.zero Ro.zero) 27)) w16.heap.size 27 (rarr RA.zero Ro.zero)) := Blk.new_at rfl
  have BM2 := Lib.hid (BM.out.alloc (Obj.cells (rarr RA.zero Ro.zero) 27))
  have HGR : Hid (gm < w16.heap.size) := BM.out.lt
  have RW1 : Hid (RR ((w16.alloc (Obj.cells (rarr RA.zero Ro.zero) 27)).setRow gm (marr MA.zero (⟨M0.sp, M0.lo, M0.hi, M0.fr, M0.tt, 4, [], []⟩ : Mv))) (⟨KA1, kn1, kc1, CA1, cn1, cc1⟩ : RA) G) := RW0.out.keep_mv GP.out (by rw [size_setRow]; exact Nat.le_refl _) (fun b hb => setRow_other _ _ _ _ hb) BM2.out (fun _ => .inr fun j hj => by
    rw [(BM2.out.row (marr MA.zero (⟨M0.sp, M0.lo, M0.hi, M0.fr, M0.tt, 4, [], []⟩ : Mv))).cell j, BM2.out.cell j]
    match j, hj with
    | 0, _ => rfl
    | 1, _ => rfl
    | 2, _ => rfl)
  have BR1 := Lib.hid (BR.out.row_far (by have := HGR.out; omega : w16.heap.size ≠ gm) (marr MA.zero (⟨M0.sp, M0.lo, M0.hi, M0.fr, M0.tt, 4, [], []⟩ : Mv)))
  have BM3 := Lib.hid (BM2.out.row (marr MA.zero (⟨M0.sp, M0.lo, M0.hi, M0.fr, M0.tt, 4, [], []⟩ : Mv)))
  have BX3 := Lib.hid ((BX.out.alloc (Obj.cells (rarr RA.zero Ro.zero) 27)).row_far (by have := HG1.out; omega : w.heap.size ≠ gm) (marr MA.zero (⟨M0.sp, M0.lo, M0.hi, M0.fr, M0.tt, 4, [], []⟩ : Mv)))
  have BE3 := Lib.hid (below_row (BE.out.alloc BE.out.size (Obj.cells (rarr RA.zero Ro.zero) 27)) (by have := HG1.out; omega : w.heap.size ≤ gm) (marr MA.zero (⟨M0.sp, M0.lo, M0.hi, M0.fr, M0.tt, 4, [], []⟩ : Mv)))
  have RW2 : Hid (RR (((w16.alloc (Obj.cells (rarr RA.zero Ro.zero) 27)).setRow gm (marr MA.zero (⟨M0.sp, M0.lo, M0.hi, M0.fr, M0.tt, 4, [], []⟩ : Mv))).setRow w16.heap.size (rarr (⟨KA1, kn1, kc1, CA1, cn1, cc1⟩ : RA) G)) (⟨KA1, kn1, kc1, CA1, cn1, cc1⟩ : RA) G) := RW1.out.keep_ro GP.out (by simp only [size_setRow]; exact Nat.le_refl _) (fun b hb => setRow_other _ _ _ _ hb) BR1.out
  go_upto_region 14 with (first | (refine wpList_store_row rfl 37 _ _ rfl gm (marr MA.zero (⟨M0.sp, M0.lo, M0.hi, M0.fr, M0.tt, 4, [], []⟩ : Mv)) rfl rfl 37 _ BM2.out (by rw [sizeM]; rfl) rfl (marr_all _ _) ?_) | (refine wpList_store_row rfl 27 _ _ rfl w16.heap.size (rarr (⟨KA1, kn1, kc1, CA1, cn1, cc1⟩ : RA) G) rfl rfl 27 _ BR1.out (by rw [sizeR]; rfl) rfl (rarr_all _ _) ?_))
  change Code.wp _ _ _ _ (((w16.alloc (Obj.cells (rarr RA.zero Ro.zero) 27)).setRow gm (marr MA.zero (⟨M0.sp, M0.lo, M0.hi, M0.fr, M0.tt, 4, [], []⟩ : Mv))).setRow w16.heap.size (rarr (⟨KA1, kn1, kc1, CA1, cn1, cc1⟩ : RA) G))
  have BR2 := Lib.hid (BR1.out.row (rarr (⟨KA1, kn1, kc1, CA1, cn1, cc1⟩ : RA) G))
  have BM4 := Lib.hid (BM3.out.row_far (by have := HGR.out; omega : gm ≠ w16.heap.size) (rarr (⟨KA1, kn1, kc1, CA1, cn1, cc1⟩ : RA) G))
  have BX4 := Lib.hid (BX3.out.row_far (by have := HGR.out; have := HG1.out; omega : w.heap.size ≠ w16.heap.size) (rarr (⟨KA1, kn1, kc1, CA1, cn1, cc1⟩ : RA) G))
  have BE4 := Lib.hid (below_row BE3.out (by have := HGR.out; have := HG1.out; omega : w.heap.size ≤ w16.heap.size) (rarr (⟨KA1, kn1, kc1, CA1, cn1, cc1⟩ : RA) G))
  clear hb hrr HCR2 RW0 RW1 BR BM2 BR1 BM3 BX3 BE3 BM BX BE
  generalize ((w16.alloc (Obj.cells (rarr RA.zero Ro.zero) 27)).setRow gm (marr MA.zero (⟨M0.sp, M0.lo, M0.hi, M0.fr, M0.tt, 4, [], []⟩ : Mv))).setRow w16.heap.size (rarr (⟨KA1, kn1, kc1, CA1, cn1, cc1⟩ : RA) G) = wp at *
  generalize w16.heap.size = gr at *
  have r0 : wp.cell? ⟨gr, 0, none⟩ = some (.string G.sp) := BR2.out.cell 0
  have r1 : wp.cell? ⟨gr, 1, none⟩ = some (.slice KA1 kn1 kc1) := BR2.out.cell 1
  have r2 : wp.cell? ⟨gr, 2, none⟩ = some (.bool G.ha) := BR2.out.cell 2
  have r3 : wp.cell? ⟨gr, 3, none⟩ = some (.int .i64 G.ep) := BR2.out.cell 3
  have r4 : wp.cell? ⟨gr, 4, none⟩ = some (.int .i64 G.ver) := BR2.out.cell 4
  have r5 : wp.cell? ⟨gr, 5, none⟩ = some (.slice CA1 cn1 cc1) := BR2.out.cell 5
  have HV3 := rvalid49_any G (⟨KA1, kn1, kc1, CA1, cn1, cc1⟩ : RA) wp RW2.out
  rw [(routE_iff G).2 HGV.out] at HV3
  have HV4 := Lib.hid HV3
  clear HV3
  go_wp2_with fail
  refine HV4.out.mono ?_
  rintro e wq ⟨rfl, hb⟩
  have BR := Lib.hid (BR2.out.step hb)
  have BM := Lib.hid (BM4.out.step hb)
  have BX := Lib.hid (BX4.out.step hb)
  have BE := Lib.hid (BE4.out.step' hb)
  have HRG := Lib.hid (RW2.out.step hb)
  clear r0 r1 r2 r3 r4 r5
  clear hb HV4 BR2 BM4 BX4 BE4 RW2
  have HCN1 : Hid (cn1 = G.cs.length) := HRG.out.cs.ln
  have hcn1 : cn1 ≤ 64 := by rw [HCN1.out]; exact HGV.out.ln
  go_wp2_with fail
  go_loopw [15, 16] (fun u15 u16 wr => ∃ (j : Nat) (kk : Int), j ≤ cn1 ∧ u16 = .int .i64 j ∧ u15 = .int .i64 kk ∧ KkI G.cs lo j kk ∧ Below wq.heap.size wq wr) (fun _ u16 _ => cn1 - (intOf u16).toNat)
  case atStart => exact ⟨0, -1, Nat.zero_le _, rfl, rfl, KkI.start _ _, Below.refl _ _⟩
  case round =>
    obtain ⟨j, kk, hjle, rfl, rfl, hk, hbel⟩ := hrel
    have HK := Lib.hid hk
    have HB := Lib.hid hbel
    clear hk hbel
    by_cases hlj : j < cn1
    · obtain ⟨b, off, c, hA, hbl, hc, e0, _, _, _, _⟩ := HRG.out.cs.sr.at5 hlj
      simp only at hA
      subst hA
      have HCJ := Lib.hid hc
      have HC0 : Hid (wr.cell? ⟨b, off + j * 5, none⟩ = some (.string c.lo)) := (HB.out.cell (p := ⟨b, off + j * 5, none⟩) hbl).trans e0
      have j0' : (0 : Int) ≤ (j : Int) := by omega
      have j1' : (j : Int) < (cn1 : Int) := by omega
      have r5 : wr.cell? ⟨gr, 5, none⟩ = some (.slice (some ⟨b, off, none⟩) cn1 cc1) := (BR.out.step HB.out).cell 5
      clear hc e0 hbl
      go_upto_region 20 with fail
      clear r5
      have B : Hid (Below wr.heap.size wr wr.drew) := Lib.hid ((Below.refl wr.heap.size wr).drew)
      have KSS : Hid (∀ w' : World, Below wr.heap.size wr w' → (fun w' => w'.cell? ⟨gr, 5, none⟩ = some (.slice (some ⟨b, off, none⟩) cn1 cc1) ∧ w'.cell? ⟨b, off + j * 5, none⟩ = some (.string c.lo) ∧ w'.cell? ⟨w.heap.size, 6, none⟩ = some (.string lo)) w') := Lib.hid fun w' hb => ⟨(BR.out.step (HB.out.step' hb)).cell 5, (hb.cell (World.block_lt_of_cell? wr _ HC0.out)).trans HC0.out, (BX.out.step (HB.out.step' hb)).cell 6⟩
      refine wp_region_noPanic ?_
      refine wp_region_held_drew (S := (fun w' => w'.cell? ⟨gr, 5, none⟩ = some (.slice (some ⟨b, off, none⟩) cn1 cc1) ∧ w'.cell? ⟨b, off + j * 5, none⟩ = some (.string c.lo) ∧ w'.cell? ⟨w.heap.size, 6, none⟩ = some (.string lo))) (by kernel_rfl) ?_ (fun hHeld => ?_)
      · (try dsimp only); exact KSS.out _ B.out
      generalize wr.drew = v0 at *
      refine wpAnyH_take (i := 0) (v := ?_) (take_at rfl) (by kernel_rfl) (by kernel_rfl) (by kernel_rfl) (fun _ _ _ h => h) (Or.inl ⟨by rfl, ?_⟩) (by assumption) ?_
      rotate_left
      · intro w' hSw; (try dsimp only at hSw); go_simp; (try with_reducible rfl)
      (try simp only [Act.put, List.setIfInBounds_toArray, List.set_cons_zero, List.set_cons_succ])
      refine wpAnyH_take (i := 1) (v := ?_) (take_at rfl) (by kernel_rfl) (by kernel_rfl) (by kernel_rfl) (fun _ _ _ h => h) (Or.inl ⟨by rfl, ?_⟩) (by assumption) ?_
      rotate_left
      · intro w' hSw; (try dsimp only at hSw); go_simp; (try with_reducible rfl)
      (try simp only [Act.put, List.setIfInBounds_toArray, List.set_cons_zero, List.set_cons_succ])
      refine wpAnyH_take (i := 2) (v := ?_) (take_at rfl) (by kernel_rfl) (by kernel_rfl) (by kernel_rfl) (fun _ _ _ h => h) (Or.inl ⟨by rfl, ?_⟩) (by assumption) ?_
      rotate_left
      · intro w' hSw; (try dsimp only at hSw); go_simp; (try with_reducible rfl)
      (try simp only [Act.put, List.setIfInBounds_toArray, List.set_cons_zero, List.set_cons_succ])
      refine wpAnyH_take (i := 3) (v := ?_) (take_at rfl) (by kernel_rfl) (by kernel_rfl) (by kernel_rfl) (fun _ _ _ h => h) (Or.inl ⟨by rfl, ?_⟩) (by assumption) ?_
      rotate_left
      · intro w' hSw; (try dsimp only at hSw); go_simp; (try with_reducible rfl)
      (try simp only [Act.put, List.setIfInBounds_toArray, List.set_cons_zero, List.set_cons_succ])
      refine wpAnyH_take (i := 4) (v := ?_) (take_at rfl) (by kernel_rfl) (by kernel_rfl) (by kernel_rfl) (fun _ _ _ h => h) (Or.inl ⟨by rfl, ?_⟩) (by assumption) ?_
      rotate_left
      · intro w' hSw; (try dsimp only at hSw); go_simp; (try with_reducible rfl)
      (try simp only [Act.put, List.setIfInBounds_toArray, List.set_cons_zero, List.set_cons_succ])
      refine wpAnyH_take (i := 5) (v := ?_) (take_at rfl) (by kernel_rfl) (by kernel_rfl) (by kernel_rfl) (fun _ _ _ h => h) (Or.inl ⟨by rfl, ?_⟩) (by assumption) ?_
      rotate_left
      · intro w' hSw; (try dsimp only at hSw); go_simp; (try with_reducible rfl)
      (try simp only [Act.put, List.setIfInBounds_toArray, List.set_cons_zero, List.set_cons_succ])
      refine wpAnyH_take (i := 6) (v := ?_) (take_at rfl) (by kernel_rfl) (by kernel_rfl) (by kernel_rfl) (fun _ _ _ h => h) (Or.inl ⟨by rfl, ?_⟩) (by assumption) ?_
      rotate_left
      · intro w' hSw; (try dsimp only at hSw); go_simp; (try with_reducible rfl)
      (try simp only [Act.put, List.setIfInBounds_toArray, List.set_cons_zero, List.set_cons_succ])
      refine wpAnyH_take (i := 7) (v := ?_) (take_at rfl) (by kernel_rfl) (by kernel_rfl) (by kernel_rfl) (fun _ _ _ h => h) (Or.inl ⟨by rfl, ?_⟩) (by assumption) ?_
      rotate_left
      · intro w' hSw; (try dsimp only at hSw); go_simp; (try with_reducible rfl)
      (try simp only [Act.put, List.setIfInBounds_toArray, List.set_cons_zero, List.set_cons_succ])
      refine wpAnyH_take (i := 8) (v := ?_) (take_at rfl) (by kernel_rfl) (by kernel_rfl) (by kernel_rfl) (fun _ _ _ h => h) (Or.inl ⟨by rfl, ?_⟩) (by assumption) ?_
      rotate_left
      · intro w' hSw; (try dsimp only at hSw); go_simp; (try with_reducible rfl)
      (try simp only [Act.put, List.setIfInBounds_toArray, List.set_cons_zero, List.set_cons_succ])
      refine wpAnyH_done (by kernel_rfl) ?_ _
      refine NoPanic.normal ?_
      have HB2 := Lib.hid (HB.out.step' B.out)
      clear B hHeld KSS HB HC0
      obtain ⟨eb, heb⟩ : ∃ eb, (c.lo.toList == lo.toList) = eb := ⟨_, rfl⟩
      rw [heb]
      have HEB := Lib.hid heb
      clear heb
      cases eb
      · go_wp2_with fail
        go_roundw
        case rel => exact ⟨j + 1, kk, by omega, by go_num, rfl, KkI.no HK.out HCJ.out (by have := HEB.out; intro e; rw [e] at this; simp at this), HB2.out⟩
        case measure => simp [intOf]; omega
      · go_wp2_with fail
        go_roundw
        case rel => exact ⟨j + 1, (j : Int), by omega, by go_num, rfl, KkI.yes HCJ.out (by have := HEB.out; simpa using this), HB2.out⟩
        case measure => simp [intOf]; omega
    · have hjc : cn1 = j := by omega
      subst hjc
      obtain ⟨ki, hki, cd, hcd, hcl⟩ := HK.out.found HCN1.out HGX.out
      subst hki
      have HSH : Hid (cd.sh = tt) := HGS.out ki cd hcd hcl
      have HCD := Lib.hid hcd
      clear hcd hcl HK
      have BR9 := Lib.hid (BR.out.step HB.out)
      have BM9 := Lib.hid (BM.out.step HB.out)
      have BX9 := Lib.hid (BX.out.step HB.out)
      have BE9 := Lib.hid (BE.out.step' HB.out)
      have HRG9 := Lib.hid (HRG.out.step HB.out)
      clear BR BM BX BE HRG HB
      generalize wr = ws at *
      have r0 : ws.cell? ⟨gr, 0, none⟩ = some (.string G.sp) := BR9.out.cell 0
      have r1 : ws.cell? ⟨gr, 1, none⟩ = some (.slice KA1 kn1 kc1) := BR9.out.cell 1
      have r2 : ws.cell? ⟨gr, 2, none⟩ = some (.bool G.ha) := BR9.out.cell 2
      have r3 : ws.cell? ⟨gr, 3, none⟩ = some (.int .i64 G.ep) := BR9.out.cell 3
      have r4 : ws.cell? ⟨gr, 4, none⟩ = some (.int .i64 G.ver) := BR9.out.cell 4
      have r5 : ws.cell? ⟨gr, 5, none⟩ = some (.slice CA1 cn1 cc1) := BR9.out.cell 5
      have x0 : ws.cell? ⟨w.heap.size, 0, none⟩ = some (.string R.sp) := BX9.out.cell 0
      have x1 : ws.cell? ⟨w.heap.size, 1, none⟩ = some (.slice KA kn kc) := BX9.out.cell 1
      have x2 : ws.cell? ⟨w.heap.size, 2, none⟩ = some (.bool R.ha) := BX9.out.cell 2
      have x3 : ws.cell? ⟨w.heap.size, 3, none⟩ = some (.int .i64 R.ep) := BX9.out.cell 3
      have x4 : ws.cell? ⟨w.heap.size, 4, none⟩ = some (.int .i64 R.ver) := BX9.out.cell 4
      have x5 : ws.cell? ⟨w.heap.size, 5, none⟩ = some (.slice CA cn cc) := BX9.out.cell 5
      have x6 : ws.cell? ⟨w.heap.size, 6, none⟩ = some (.string lo) := BX9.out.cell 6
      have x7 : ws.cell? ⟨w.heap.size, 7, none⟩ = some (.int .i64 tt) := BX9.out.cell 7
      have x8 : ws.cell? ⟨w.heap.size, 8, none⟩ = some (.slice DA dn dc) := BX9.out.cell 8
      have x9 : ws.cell? ⟨w.heap.size, 9, none⟩ = some (.slice XA xn xc) := BX9.out.cell 9
      have x10 : ws.cell? ⟨w.heap.size, 10, none⟩ = some (.int .i64 ea) := BX9.out.cell 10
      have HOA := orph_any (⟨M0.sp, M0.lo, M0.hi, M0.fr, M0.tt, 4, [], []⟩ : Mv) MA.zero G (⟨KA1, kn1, kc1, CA1, cn1, cc1⟩ : RA) ps DA dn dc ws (HT.out.step BE9.out) HRG9.out (by rw [HGK.out]; exact HKE.out.1) (HD.out.step BE9.out) hdn HSP0.out rfl
      have HOA2 := Lib.hid HOA
      clear HOA
      go_wp2_with (refine wpList_load_row rfl 37 _ rfl gm rfl _ _ _ _ BM9.out Tryz.underlying37 rfl (by rw [sizeM]; rfl) ?_)
      refine HOA2.out.mono ?_
      rintro e wt ⟨LA, ln, lc, ls, rfl, hst, hws, hb⟩
      obtain ⟨m, hm, hmp0⟩ := remL_perm hst
      have hmp : m.Perm (((ps.map Prod.snd).filter (insD G M0.lo M0.hi)).map idV) := hmp0
      clear hmp0
      have HLM := Lib.hid hm
      have HMP := Lib.hid hmp
      have HWS := Lib.hid hws
      have HLN : Hid (ln = ls.length) := hws.sr.ln
      have HLL : Hid (ls.length = m.length) := by have := congrArg List.length hm; rwa [List.length_map, List.length_map] at this
      have BR := Lib.hid (BR9.out.step hb)
      have BM := Lib.hid (BM9.out.step hb)
      have BX := Lib.hid (BX9.out.step hb)
      have BE := Lib.hid (BE9.out.step' hb)
      have HRG := Lib.hid (HRG9.out.step hb)
      have hln3 : ln ≤ 20 := by
        have h1 := hmp.length_eq
        rw [List.length_map] at h1
        have h2 := List.length_filter_le (insD G M0.lo M0.hi) (ps.map Prod.snd)
        rw [List.length_map] at h2
        have e1 := HLN.out
        have e2 := HLL.out
        have e3 := HDN.out
        omega
      clear x0 x1 x2 x3 x4 x5 x6 x7 x8 x9 x10
      clear hst hws hb hm hmp HOA2 BR9 BM9 BX9 BE9 HRG9 r0 r1 r2 r3 r4 r5
      have x0 : wt.cell? ⟨w.heap.size, 0, none⟩ = some (.string R.sp) := BX.out.cell 0
      have x1 : wt.cell? ⟨w.heap.size, 1, none⟩ = some (.slice KA kn kc) := BX.out.cell 1
      have x2 : wt.cell? ⟨w.heap.size, 2, none⟩ = some (.bool R.ha) := BX.out.cell 2
      have x3 : wt.cell? ⟨w.heap.size, 3, none⟩ = some (.int .i64 R.ep) := BX.out.cell 3
      have x4 : wt.cell? ⟨w.heap.size, 4, none⟩ = some (.int .i64 R.ver) := BX.out.cell 4
      have x5 : wt.cell? ⟨w.heap.size, 5, none⟩ = some (.slice CA cn cc) := BX.out.cell 5
      have x6 : wt.cell? ⟨w.heap.size, 6, none⟩ = some (.string lo) := BX.out.cell 6
      have x7 : wt.cell? ⟨w.heap.size, 7, none⟩ = some (.int .i64 tt) := BX.out.cell 7
      have x8 : wt.cell? ⟨w.heap.size, 8, none⟩ = some (.slice DA dn dc) := BX.out.cell 8
      have x9 : wt.cell? ⟨w.heap.size, 9, none⟩ = some (.slice XA xn xc) := BX.out.cell 9
      have x10 : wt.cell? ⟨w.heap.size, 10, none⟩ = some (.int .i64 ea) := BX.out.cell 10
      go_wp2_with fail
      clear x0 x1 x2 x3 x4 x5 x6 x7 x8 x9 x10
      go_loopw [18, 19] (fun u18 u19 wr => ∃ (k : Nat) (A9 : Option Addr) (n9 c9 : Nat) (gs : List PV), k ≤ ln ∧ u19 = .int .i64 k ∧ u18 = .slice A9 n9 c9 ∧ gs.map Prod.snd = ((ls.map Prod.snd).take k).foldl carryV (ps.map Prod.snd) ∧ SL (fun _ => True) wr A9 n9 c9 gs ∧ n9 ≤ 20 + k ∧ Below wt.heap.size wt wr) (fun _ u19 _ => ln - (intOf u19).toNat)
      case atStart => exact ⟨0, DA, dn, dc, ps, Nat.zero_le _, rfl, rfl, rfl, HD.out.step BE.out, by omega, Below.refl _ _⟩
      case round =>
        obtain ⟨k, A9, n9, c9, gs, hkle, rfl, rfl, hgs, hsl, hn9, hbel⟩ := hrel
        have HGS2 := Lib.hid hgs
        have HS9 := Lib.hid hsl
        have HB := Lib.hid hbel
        clear hgs hsl hbel
        by_cases hlk : k < ln
        · obtain ⟨q, hq⟩ : ∃ q, ls[k]? = some q := ⟨_, List.getElem?_eq_getElem (by have := HLN.out; omega)⟩
          have HQ := Lib.hid hq
          obtain ⟨b, off, rfl, _, hrg, hrw⟩ := (HWS.out.step HB.out).range hq
          have hq2 : q.2 ∈ m.map (remW M0.sp) := by rw [← HLM.out]; exact List.mem_map_of_mem (List.mem_of_getElem? hq)
          obtain ⟨mk, _, hmk⟩ := List.mem_map.1 hq2
          have RG := Lib.hid hrg
          have RQ := Lib.hid hrw
          have y77 : wr.cell? ⟨b, off + k * 78 + 77, none⟩ = some (.bool true) := by
            have := hrg 77 _ rfl
            rw [this, show q.1.si = true from hrw.si.trans (by rw [← hmk]; rfl)]
          have y0 : wr.cell? ⟨b, off + k * 78, none⟩ = some (.int .i64 3) := by
            have := hrg 0 _ rfl
            rw [show off + k * 78 = off + k * 78 + 0 from rfl, this, show q.1.kd = 3 from hrw.kd.trans (by rw [← hmk]; rfl)]
          have k0' : (0 : Int) ≤ (k : Int) := by omega
          have k1' : (k : Int) < (ln : Int) := by omega
          have hgl : gs.length ≤ 200 := by have := HS9.out.sr.ln; omega
          clear hq hrg hrw hq2 hmk
          go_wp2_with (refine wpList_load_mid rfl 68 _ rfl b (off + k * 78) rfl _ _ RG.out Tryz.underlying68 rfl (by rw [sizeW]; rfl) ?_)
          refine (carry_any (F := fun _ => True) gs A9 n9 c9 (recC78 q.1) (wxOf q) wr HS9.out (by omega) (isW_rec RQ.out) RQ.out.doc).mono ?_
          rintro e w11 ⟨A10, n10, c10, es, rfl, hes, hsl, hb⟩
          have hes2 : es.map Prod.snd = ((ls.map Prod.snd).take (k + 1)).foldl carryV (ps.map Prod.snd) := by
            rw [hes, carryX_of RQ.out, take_snoc' (show (ls.map Prod.snd)[k]? = some q.2 by rw [List.getElem?_map, HQ.out]; rfl), List.foldl_append, ← HGS2.out]
            rfl
          have hel : n10 ≤ 20 + (k + 1) := by
            have h1 := congrArg List.length hes
            have h2 := carryV_len (gs.map Prod.snd) q.2
            rw [carryX_of RQ.out] at h1
            rw [List.length_map] at h1 h2
            have h3 := hsl.sr.ln
            have h4 := HS9.out.sr.ln
            omega
          have HES := Lib.hid hes2
          have HSL6 : Hid (SL (fun _ => True) w11 A10 n10 c10 es) := hsl.mono fun _ _ => trivial
          have HB3 := Lib.hid (HB.out.step' hb)
          clear hes hsl hb hes2 RG RQ HS9 HB y77 y0
          go_wp2_with fail
          go_roundw
          case rel => exact ⟨k + 1, A10, n10, c10, es, by omega, by go_num, rfl, HES.out, HSL6.out, hel, HB3.out⟩
          case measure => simp [intOf]; omega
        · have hka : ln = k := by omega
          subst hka
          have HG : Hid (gs.map Prod.snd = (ps.map Prod.snd).filter (fun x => !insD G M0.lo M0.hi x)) := by
            have := HGS2.out
            rw [List.take_of_length_le (by rw [List.length_map]; exact Nat.le_of_eq HLN.out.symm), HLM.out] at this
            rw [Hid, this]
            exact orphans_law HDIS.out HMP.out
          have BR8 := Lib.hid (BR.out.step HB.out)
          have BM8 := Lib.hid (BM.out.step HB.out)
          have BX8 := Lib.hid (BX.out.step HB.out)
          have BE8 := Lib.hid (BE.out.step' HB.out)
          have HRG8 := Lib.hid (HRG.out.step HB.out)
          have HNL : Hid (n9 = gs.length) := HS9.out.sr.ln
          clear BR BM BX BE HRG HB HGS2 HWS
          have hn93 : n9 ≤ 40 := by omega
          generalize wr = wu at *
          have x0 : wu.cell? ⟨w.heap.size, 0, none⟩ = some (.string R.sp) := BX8.out.cell 0
          have x1 : wu.cell? ⟨w.heap.size, 1, none⟩ = some (.slice KA kn kc) := BX8.out.cell 1
          have x2 : wu.cell? ⟨w.heap.size, 2, none⟩ = some (.bool R.ha) := BX8.out.cell 2
          have x3 : wu.cell? ⟨w.heap.size, 3, none⟩ = some (.int .i64 R.ep) := BX8.out.cell 3
          have x4 : wu.cell? ⟨w.heap.size, 4, none⟩ = some (.int .i64 R.ver) := BX8.out.cell 4
          have x5 : wu.cell? ⟨w.heap.size, 5, none⟩ = some (.slice CA cn cc) := BX8.out.cell 5
          have x6 : wu.cell? ⟨w.heap.size, 6, none⟩ = some (.string lo) := BX8.out.cell 6
          have x7 : wu.cell? ⟨w.heap.size, 7, none⟩ = some (.int .i64 tt) := BX8.out.cell 7
          have x8 : wu.cell? ⟨w.heap.size, 8, none⟩ = some (.slice DA dn dc) := BX8.out.cell 8
          have x9 : wu.cell? ⟨w.heap.size, 9, none⟩ = some (.slice XA xn xc) := BX8.out.cell 9
          have x10 : wu.cell? ⟨w.heap.size, 10, none⟩ = some (.int .i64 ea) := BX8.out.cell 10
          go_wp2_with fail
          clear x0 x1 x2 x3 x4 x5 x6 x7 x8 x9 x10
          go_loopw [20, 21] (fun u20 u21 wr => ∃ (j ct : Nat), j ≤ dn ∧ u21 = .int .i64 j ∧ u20 = .int .i64 ct ∧ ct = (((ps.map Prod.snd).take j).filter (fun x => !insD G M0.lo M0.hi x)).length ∧ ct ≤ j ∧ Below wu.heap.size wu wr) (fun _ u21 _ => dn - (intOf u21).toNat)
          case atStart => exact ⟨0, 0, Nat.zero_le _, rfl, rfl, rfl, Nat.le_refl _, Below.refl _ _⟩
          case round =>
            obtain ⟨j, ct, hjle, rfl, rfl, hct, hctj, hbel⟩ := hrel
            have HCT := Lib.hid hct
            have HB := Lib.hid hbel
            clear hct hbel
            by_cases hlj : j < dn
            · obtain ⟨p, hp⟩ : ∃ p, ps[j]? = some p := ⟨_, List.getElem?_eq_getElem (by have := HDN.out; omega)⟩
              have HPi := Lib.hid hp
              obtain ⟨b, off, rfl, _, hu, hr⟩ := (HD.out.step (BE8.out.step' HB.out)).vat hp
              have HPA := Lib.hid hu
              have HPR := Lib.hid hr
              have j0' : (0 : Int) ≤ (j : Int) := by omega
              have j1' : (j : Int) < (dn : Int) := by omega
              have x8 : wr.cell? ⟨w.heap.size, 8, none⟩ = some (.slice (some ⟨b, off, none⟩) dn dc) := (BX8.out.step HB.out).cell 8
              clear hp hu hr
              obtain ⟨ib, hib⟩ : ∃ ib, insD G M0.lo M0.hi p.2 = ib := ⟨_, rfl⟩
              have HIB := Lib.hid hib
              clear hib
              go_upto_region 34 with fail
              clear x8
              have B : Hid (Below wr.heap.size wr wr.drew) := Lib.hid ((Below.refl wr.heap.size wr).drew)
              have KSS : Hid (∀ w' : World, Below wr.heap.size wr w' → (fun w' => Blk w' gm 37 (marr MA.zero (⟨M0.sp, M0.lo, M0.hi, M0.fr, M0.tt, 4, [], []⟩ : Mv)) ∧ w'.cell? ⟨b, off + j * 5, none⟩ = some (.int .i64 p.1.k) ∧ w'.cell? ⟨b, off + j * 5 + 1, none⟩ = some (.int .i64 p.1.n) ∧ w'.cell? ⟨b, off + j * 5 + 2, none⟩ = some (.string p.1.t) ∧ w'.cell? ⟨b, off + j * 5 + 3, none⟩ = some (.slice p.1.LA p.1.ln p.1.lc) ∧ w'.cell? ⟨b, off + j * 5 + 4, none⟩ = some (.slice p.1.DA p.1.dn p.1.dc) ∧ w'.cell? ⟨gr, 0, none⟩ = some (.string G.sp) ∧ w'.cell? ⟨gr, 1, none⟩ = some (.slice KA1 kn1 kc1) ∧ w'.cell? ⟨gr, 2, none⟩ = some (.bool G.ha) ∧ w'.cell? ⟨gr, 3, none⟩ = some (.int .i64 G.ep) ∧ w'.cell? ⟨gr, 4, none⟩ = some (.int .i64 G.ver) ∧ w'.cell? ⟨gr, 5, none⟩ = some (.slice CA1 cn1 cc1) ∧ w'.cell? ⟨w.heap.size, 8, none⟩ = some (.slice (some ⟨b, off, none⟩) dn dc)) w') := Lib.hid fun w' hb => by
                obtain ⟨a0, a1, a2, a3, a4⟩ := HPA.out
                have cl : ∀ {x : Addr} {v : Value}, wr.cell? x = some v → w'.cell? x = some v := fun h => (hb.cell (World.block_lt_of_cell? wr _ h)).trans h
                have hR := BR8.out.step (HB.out.step' hb)
                exact ⟨BM8.out.step (HB.out.step' hb), cl a0, cl a1, cl a2, cl a3, cl a4, hR.cell 0, hR.cell 1, hR.cell 2, hR.cell 3, hR.cell 4, hR.cell 5, (BX8.out.step (HB.out.step' hb)).cell 8⟩
              have HIN : Hid (∀ wq, RR wq (⟨KA1, kn1, kc1, CA1, cn1, cc1⟩ : RA) G → RW wq p.1 p.2 → Calls Tryz.prog 16 #[mval MA.zero (⟨M0.sp, M0.lo, M0.hi, M0.fr, M0.tt, 4, [], []⟩ : Mv), rval (⟨KA1, kn1, kc1, CA1, cn1, cc1⟩ : RA) G, p.1.val] wq fun e w' => e = .returned (.bool ib) ∧ Below wq.heap.size wq w') := Lib.hid fun wq h1 h2 => by
                have := rin_any (⟨M0.sp, M0.lo, M0.hi, M0.fr, M0.tt, 4, [], []⟩ : Mv) MA.zero G (⟨KA1, kn1, kc1, CA1, cn1, cc1⟩ : RA) p.2 p.1 wq h1 h2 (by rw [HGK.out]; exact HKE.out.1) (by rw [HGK.out, HGH.out]; exact HKE.out.2) HLO0.out
                simp only at this
                rw [HIB.out] at this
                exact this
              refine wp_region_noPanic ?_
              refine wp_region_held_drew (S := (fun w' => Blk w' gm 37 (marr MA.zero (⟨M0.sp, M0.lo, M0.hi, M0.fr, M0.tt, 4, [], []⟩ : Mv)) ∧ w'.cell? ⟨b, off + j * 5, none⟩ = some (.int .i64 p.1.k) ∧ w'.cell? ⟨b, off + j * 5 + 1, none⟩ = some (.int .i64 p.1.n) ∧ w'.cell? ⟨b, off + j * 5 + 2, none⟩ = some (.string p.1.t) ∧ w'.cell? ⟨b, off + j * 5 + 3, none⟩ = some (.slice p.1.LA p.1.ln p.1.lc) ∧ w'.cell? ⟨b, off + j * 5 + 4, none⟩ = some (.slice p.1.DA p.1.dn p.1.dc) ∧ w'.cell? ⟨gr, 0, none⟩ = some (.string G.sp) ∧ w'.cell? ⟨gr, 1, none⟩ = some (.slice KA1 kn1 kc1) ∧ w'.cell? ⟨gr, 2, none⟩ = some (.bool G.ha) ∧ w'.cell? ⟨gr, 3, none⟩ = some (.int .i64 G.ep) ∧ w'.cell? ⟨gr, 4, none⟩ = some (.int .i64 G.ver) ∧ w'.cell? ⟨gr, 5, none⟩ = some (.slice CA1 cn1 cc1) ∧ w'.cell? ⟨w.heap.size, 8, none⟩ = some (.slice (some ⟨b, off, none⟩) dn dc))) (by kernel_rfl) ?_ (fun hHeld => ?_)
              · (try dsimp only); exact KSS.out _ B.out
              generalize wr.drew = v0 at *
              refine wpAnyH_take (i := 0) (v := .agg (marr MA.zero (⟨M0.sp, M0.lo, M0.hi, M0.fr, M0.tt, 4, [], []⟩ : Mv))) (take_at rfl) (by kernel_rfl) (by kernel_rfl) (by kernel_rfl) (fun _ _ _ h => h) (Or.inl ⟨by rfl, ?_⟩) (by assumption) ?_
              · intro w' hSw; exact exec_row rfl rfl hSw.1 Tryz.underlying37 rfl (by rw [sizeM]; rfl)
              (try simp only [Act.put, List.setIfInBounds_toArray, List.set_cons_zero, List.set_cons_succ])
              refine wpAnyH_take (i := 1) (v := ?_) (take_at rfl) (by kernel_rfl) (by kernel_rfl) (by kernel_rfl) (fun _ _ _ h => h) (Or.inl ⟨by rfl, ?_⟩) (by assumption) ?_
              rotate_left
              · intro w' hSw; (try dsimp only at hSw); go_simp; (try with_reducible rfl)
              (try simp only [Act.put, List.setIfInBounds_toArray, List.set_cons_zero, List.set_cons_succ])
              refine wpAnyH_take (i := 2) (v := ?_) (take_at rfl) (by kernel_rfl) (by kernel_rfl) (by kernel_rfl) (fun _ _ _ h => h) (Or.inl ⟨by rfl, ?_⟩) (by assumption) ?_
              rotate_left
              · intro w' hSw; (try dsimp only at hSw); go_simp; (try with_reducible rfl)
              (try simp only [Act.put, List.setIfInBounds_toArray, List.set_cons_zero, List.set_cons_succ])
              refine wpAnyH_take (i := 3) (v := ?_) (take_at rfl) (by kernel_rfl) (by kernel_rfl) (by kernel_rfl) (fun _ _ _ h => h) (Or.inl ⟨by rfl, ?_⟩) (by assumption) ?_
              rotate_left
              · intro w' hSw; (try dsimp only at hSw); go_simp; (try with_reducible rfl)
              (try simp only [Act.put, List.setIfInBounds_toArray, List.set_cons_zero, List.set_cons_succ])
              refine wpAnyH_take (i := 4) (v := ?_) (take_at rfl) (by kernel_rfl) (by kernel_rfl) (by kernel_rfl) (fun _ _ _ h => h) (Or.inl ⟨by rfl, ?_⟩) (by assumption) ?_
              rotate_left
              · intro w' hSw; (try dsimp only at hSw); go_simp; (try with_reducible rfl)
              (try simp only [Act.put, List.setIfInBounds_toArray, List.set_cons_zero, List.set_cons_succ])
              refine wpAnyH_take (i := 5) (v := ?_) (take_at rfl) (by kernel_rfl) (by kernel_rfl) (by kernel_rfl) (fun _ _ _ h => h) (Or.inl ⟨by rfl, ?_⟩) (by assumption) ?_
              rotate_left
              · intro w' hSw; (try dsimp only at hSw); go_simp; (try with_reducible rfl)
              (try simp only [Act.put, List.setIfInBounds_toArray, List.set_cons_zero, List.set_cons_succ])
              refine wpAnyH_take (i := 6) (v := ?_) (take_at rfl) (by kernel_rfl) (by kernel_rfl) (by kernel_rfl) (fun _ _ _ h => h) (Or.inl ⟨by rfl, ?_⟩) (by assumption) ?_
              rotate_left
              · intro w' hSw; (try dsimp only at hSw); go_simp; (try with_reducible rfl)
              (try simp only [Act.put, List.setIfInBounds_toArray, List.set_cons_zero, List.set_cons_succ])
              refine wpAnyH_ready (rs := [7]) (by kernel_rfl) (by simp) ?_
              refine AllReadyH.cons (take_at rfl) (fun K hK => ?_) AllReadyH.nil
              go_simp
              refine (HIN.out v0 (HRG8.out.step (HB.out.step' B.out)) (HPR.out.step B.out)).mono ?_
              rintro e3 y1 ⟨rfl, hb⟩
              replace B := Lib.hid (B.out.step' hb)
              clear hb
              (try go_wp2_with fail)
              refine hK.out _ _ ?_ (fun hHeld2 => ?_)
              · (try dsimp only); exact KSS.out _ B.out
              clear hK K hHeld
              have hHeld := hHeld2
              clear hHeld2
              (try simp only [Act.put, List.setIfInBounds_toArray, List.set_cons_zero, List.set_cons_succ])
              refine wpAnyH_take (i := 8) (v := ?_) (take_at rfl) (by kernel_rfl) (by kernel_rfl) (by kernel_rfl) (fun _ _ _ h => h) (Or.inl ⟨by rfl, ?_⟩) (by assumption) ?_
              rotate_left
              · intro w' hSw; (try dsimp only at hSw); go_simp; (try with_reducible rfl)
              (try simp only [Act.put, List.setIfInBounds_toArray, List.set_cons_zero, List.set_cons_succ])
              refine wpAnyH_done (by kernel_rfl) ?_ _
              refine NoPanic.normal ?_
              have HB2 := Lib.hid (HB.out.step' B.out)
              clear B hHeld KSS HIN HPR HPA HB
              have HTK : Hid (((ps.map Prod.snd).take (j + 1)).filter (fun x => !insD G M0.lo M0.hi x) = ((ps.map Prod.snd).take j).filter (fun x => !insD G M0.lo M0.hi x) ++ (if ib = true then [] else [p.2])) := by
                rw [Hid, take_snoc' (show (ps.map Prod.snd)[j]? = some p.2 by rw [List.getElem?_map, HPi.out]; rfl), List.filter_append, List.filter_cons, HIB.out]
                cases ib <;> rfl
              cases ib
              · simp only [Bool.not_false]
                have HT2 : Hid ((((ps.map Prod.snd).take (j + 1)).filter (fun x => !insD G M0.lo M0.hi x)).length = ct + 1) := by rw [Hid, HTK.out, List.length_append, ← HCT.out]; rfl
                go_wp2_with fail
                go_roundw
                case rel => exact ⟨j + 1, ct + 1, by omega, by go_num, by go_num, HT2.out.symm, by omega, HB2.out⟩
                case measure => simp [intOf]; omega
              · simp only [Bool.not_true]
                have HT2 : Hid ((((ps.map Prod.snd).take (j + 1)).filter (fun x => !insD G M0.lo M0.hi x)).length = ct) := by rw [Hid, HTK.out, List.length_append, ← HCT.out]; rfl
                go_wp2_with fail
                go_roundw
                case rel => exact ⟨j + 1, ct, by omega, by go_num, rfl, HT2.out.symm, by omega, HB2.out⟩
                case measure => simp [intOf]; omega
            · have hjn : dn = j := by omega
              subst hjn
              have HCF : Hid (ct = n9) := by
                have h1 := HCT.out
                rw [List.take_of_length_le (by rw [List.length_map, HDN.out]; exact Nat.le_refl _), ← HG.out, List.length_map] at h1
                rw [Hid, h1]
                exact HNL.out.symm
              have x8 : wr.cell? ⟨w.heap.size, 8, none⟩ = some (.slice DA dn dc) := (BX8.out.step HB.out).cell 8
              have BR7 := Lib.hid (BR8.out.step HB.out)
              have BM7 := Lib.hid (BM8.out.step HB.out)
              have BX7 := Lib.hid (BX8.out.step HB.out)
              have BE7 := Lib.hid (BE8.out.step' HB.out)
              have HRG7 := Lib.hid (HRG8.out.step HB.out)
              have HS7 := Lib.hid (HS9.out.step HB.out)
              clear BR8 BM8 BX8 BE8 HRG8 HS9 HB HCT
              generalize wr = wv at *
              have BR8 := BR7
              have BM8 := BM7
              have HRG8 := HRG7
              clear BR7 BM7 HRG7
              go_wp2_with fail
              clear x8
              go_loopw [22] (fun u22 wr => ∃ (j : Nat), j ≤ n9 ∧ u22 = .int .i64 j ∧ Below wv.heap.size wv wr) (fun u22 _ => n9 - (intOf u22).toNat)
              case atStart => exact ⟨0, Nat.zero_le _, rfl, Below.refl _ _⟩
              case round =>
                obtain ⟨j, hjle, rfl, hbel⟩ := hrel
                have HB := Lib.hid hbel
                clear hbel
                by_cases hlj : j < n9
                · obtain ⟨p, hp⟩ : ∃ p, gs[j]? = some p := ⟨_, List.getElem?_eq_getElem (by have := HNL.out; omega)⟩
                  obtain ⟨b, off, rfl, _, hu, hr⟩ := (HS7.out.step HB.out).vat hp
                  have HPA := Lib.hid hu
                  have HPR := Lib.hid hr
                  have j0' : (0 : Int) ≤ (j : Int) := by omega
                  have j1' : (j : Int) < (n9 : Int) := by omega
                  have HIB : Hid (insD G M0.lo M0.hi p.2 = false) := by
                    have h1 : p.2 ∈ gs.map Prod.snd := List.mem_map_of_mem (List.mem_of_getElem? hp)
                    rw [HG.out] at h1
                    have := (List.mem_filter.1 h1).2
                    unfold Hid
                    simpa using this
                  clear hp hu hr
                  go_upto_region 39 with fail
                  have B : Hid (Below wr.heap.size wr wr.drew) := Lib.hid ((Below.refl wr.heap.size wr).drew)
                  have KSS : Hid (∀ w' : World, Below wr.heap.size wr w' → (fun w' => Blk w' gm 37 (marr MA.zero (⟨M0.sp, M0.lo, M0.hi, M0.fr, M0.tt, 4, [], []⟩ : Mv)) ∧ w'.cell? ⟨b, off + j * 5, none⟩ = some (.int .i64 p.1.k) ∧ w'.cell? ⟨b, off + j * 5 + 1, none⟩ = some (.int .i64 p.1.n) ∧ w'.cell? ⟨b, off + j * 5 + 2, none⟩ = some (.string p.1.t) ∧ w'.cell? ⟨b, off + j * 5 + 3, none⟩ = some (.slice p.1.LA p.1.ln p.1.lc) ∧ w'.cell? ⟨b, off + j * 5 + 4, none⟩ = some (.slice p.1.DA p.1.dn p.1.dc) ∧ w'.cell? ⟨gr, 0, none⟩ = some (.string G.sp) ∧ w'.cell? ⟨gr, 1, none⟩ = some (.slice KA1 kn1 kc1) ∧ w'.cell? ⟨gr, 2, none⟩ = some (.bool G.ha) ∧ w'.cell? ⟨gr, 3, none⟩ = some (.int .i64 G.ep) ∧ w'.cell? ⟨gr, 4, none⟩ = some (.int .i64 G.ver) ∧ w'.cell? ⟨gr, 5, none⟩ = some (.slice CA1 cn1 cc1)) w') := Lib.hid fun w' hb => by
                    obtain ⟨a0, a1, a2, a3, a4⟩ := HPA.out
                    have cl : ∀ {x : Addr} {v : Value}, wr.cell? x = some v → w'.cell? x = some v := fun h => (hb.cell (World.block_lt_of_cell? wr _ h)).trans h
                    have hR := BR8.out.step (HB.out.step' hb)
                    exact ⟨BM8.out.step (HB.out.step' hb), cl a0, cl a1, cl a2, cl a3, cl a4, hR.cell 0, hR.cell 1, hR.cell 2, hR.cell 3, hR.cell 4, hR.cell 5⟩
                  have HIN : Hid (∀ wq, RR wq (⟨KA1, kn1, kc1, CA1, cn1, cc1⟩ : RA) G → RW wq p.1 p.2 → Calls Tryz.prog 16 #[mval MA.zero (⟨M0.sp, M0.lo, M0.hi, M0.fr, M0.tt, 4, [], []⟩ : Mv), rval (⟨KA1, kn1, kc1, CA1, cn1, cc1⟩ : RA) G, p.1.val] wq fun e w' => e = .returned (.bool false) ∧ Below wq.heap.size wq w') := Lib.hid fun wq h1 h2 => by
                    have := rin_any (⟨M0.sp, M0.lo, M0.hi, M0.fr, M0.tt, 4, [], []⟩ : Mv) MA.zero G (⟨KA1, kn1, kc1, CA1, cn1, cc1⟩ : RA) p.2 p.1 wq h1 h2 (by rw [HGK.out]; exact HKE.out.1) (by rw [HGK.out, HGH.out]; exact HKE.out.2) HLO0.out
                    simp only at this
                    rw [HIB.out] at this
                    exact this
                  refine wp_region_noPanic ?_
                  refine wp_region_held_drew (S := (fun w' => Blk w' gm 37 (marr MA.zero (⟨M0.sp, M0.lo, M0.hi, M0.fr, M0.tt, 4, [], []⟩ : Mv)) ∧ w'.cell? ⟨b, off + j * 5, none⟩ = some (.int .i64 p.1.k) ∧ w'.cell? ⟨b, off + j * 5 + 1, none⟩ = some (.int .i64 p.1.n) ∧ w'.cell? ⟨b, off + j * 5 + 2, none⟩ = some (.string p.1.t) ∧ w'.cell? ⟨b, off + j * 5 + 3, none⟩ = some (.slice p.1.LA p.1.ln p.1.lc) ∧ w'.cell? ⟨b, off + j * 5 + 4, none⟩ = some (.slice p.1.DA p.1.dn p.1.dc) ∧ w'.cell? ⟨gr, 0, none⟩ = some (.string G.sp) ∧ w'.cell? ⟨gr, 1, none⟩ = some (.slice KA1 kn1 kc1) ∧ w'.cell? ⟨gr, 2, none⟩ = some (.bool G.ha) ∧ w'.cell? ⟨gr, 3, none⟩ = some (.int .i64 G.ep) ∧ w'.cell? ⟨gr, 4, none⟩ = some (.int .i64 G.ver) ∧ w'.cell? ⟨gr, 5, none⟩ = some (.slice CA1 cn1 cc1))) (by kernel_rfl) ?_ (fun hHeld => ?_)
                  · (try dsimp only); exact KSS.out _ B.out
                  generalize wr.drew = v0 at *
                  refine wpAnyH_take (i := 0) (v := .agg (marr MA.zero (⟨M0.sp, M0.lo, M0.hi, M0.fr, M0.tt, 4, [], []⟩ : Mv))) (take_at rfl) (by kernel_rfl) (by kernel_rfl) (by kernel_rfl) (fun _ _ _ h => h) (Or.inl ⟨by rfl, ?_⟩) (by assumption) ?_
                  · intro w' hSw; exact exec_row rfl rfl hSw.1 Tryz.underlying37 rfl (by rw [sizeM]; rfl)
                  (try simp only [Act.put, List.setIfInBounds_toArray, List.set_cons_zero, List.set_cons_succ])
                  refine wpAnyH_take (i := 1) (v := ?_) (take_at rfl) (by kernel_rfl) (by kernel_rfl) (by kernel_rfl) (fun _ _ _ h => h) (Or.inl ⟨by rfl, ?_⟩) (by assumption) ?_
                  rotate_left
                  · intro w' hSw; (try dsimp only at hSw); go_simp; (try with_reducible rfl)
                  (try simp only [Act.put, List.setIfInBounds_toArray, List.set_cons_zero, List.set_cons_succ])
                  refine wpAnyH_take (i := 2) (v := ?_) (take_at rfl) (by kernel_rfl) (by kernel_rfl) (by kernel_rfl) (fun _ _ _ h => h) (Or.inl ⟨by rfl, ?_⟩) (by assumption) ?_
                  rotate_left
                  · intro w' hSw; (try dsimp only at hSw); go_simp; (try with_reducible rfl)
                  (try simp only [Act.put, List.setIfInBounds_toArray, List.set_cons_zero, List.set_cons_succ])
                  refine wpAnyH_take (i := 3) (v := ?_) (take_at rfl) (by kernel_rfl) (by kernel_rfl) (by kernel_rfl) (fun _ _ _ h => h) (Or.inl ⟨by rfl, ?_⟩) (by assumption) ?_
                  rotate_left
                  · intro w' hSw; (try dsimp only at hSw); go_simp; (try with_reducible rfl)
                  (try simp only [Act.put, List.setIfInBounds_toArray, List.set_cons_zero, List.set_cons_succ])
                  refine wpAnyH_take (i := 4) (v := ?_) (take_at rfl) (by kernel_rfl) (by kernel_rfl) (by kernel_rfl) (fun _ _ _ h => h) (Or.inl ⟨by rfl, ?_⟩) (by assumption) ?_
                  rotate_left
                  · intro w' hSw; (try dsimp only at hSw); go_simp; (try with_reducible rfl)
                  (try simp only [Act.put, List.setIfInBounds_toArray, List.set_cons_zero, List.set_cons_succ])
                  refine wpAnyH_take (i := 5) (v := ?_) (take_at rfl) (by kernel_rfl) (by kernel_rfl) (by kernel_rfl) (fun _ _ _ h => h) (Or.inl ⟨by rfl, ?_⟩) (by assumption) ?_
                  rotate_left
                  · intro w' hSw; (try dsimp only at hSw); go_simp; (try with_reducible rfl)
                  (try simp only [Act.put, List.setIfInBounds_toArray, List.set_cons_zero, List.set_cons_succ])
                  refine wpAnyH_ready (rs := [6]) (by kernel_rfl) (by simp) ?_
                  refine AllReadyH.cons (take_at rfl) (fun K hK => ?_) AllReadyH.nil
                  go_simp
                  refine (HIN.out v0 (HRG8.out.step (HB.out.step' B.out)) (HPR.out.step B.out)).mono ?_
                  rintro e3 y1 ⟨rfl, hb⟩
                  replace B := Lib.hid (B.out.step' hb)
                  clear hb
                  (try go_wp2_with fail)
                  refine hK.out _ _ ?_ (fun hHeld2 => ?_)
                  · (try dsimp only); exact KSS.out _ B.out
                  clear hK K hHeld
                  have hHeld := hHeld2
                  clear hHeld2
                  (try simp only [Act.put, List.setIfInBounds_toArray, List.set_cons_zero, List.set_cons_succ])
                  refine wpAnyH_done (by kernel_rfl) ?_ _
                  refine NoPanic.normal ?_
                  have HB2 := Lib.hid (HB.out.step' B.out)
                  clear B hHeld KSS HIN HPR HPA HB
                  go_wp2_with fail
                  go_roundw
                  case rel => exact ⟨j + 1, by omega, by go_num, HB2.out⟩
                  case measure => simp [intOf]; omega
                · have hjn : n9 = j := by omega
                  subst hjn
                  have hkl : ki < cn1 := by rw [HCN1.out]; exact (List.getElem?_eq_some_iff.1 HCD.out).1
                  obtain ⟨b, off, c, hA, hbl, hc, _, _, e2, _, _⟩ := HRG8.out.cs.sr.at5 hkl
                  rw [HCD.out] at hc
                  injection hc with hc
                  subst hc
                  simp only at hA
                  subst hA
                  have HC2 : Hid (wr.cell? ⟨b, off + ki * 5 + 2, none⟩ = some (.int .i64 tt)) := by
                    have := (HB.out.cell (p := ⟨b, off + ki * 5 + 2, none⟩) hbl).trans e2
                    rw [HSH.out] at this
                    exact this
                  have k0' : (0 : Int) ≤ (ki : Int) := by omega
                  have k1' : (ki : Int) < (cn1 : Int) := by omega
                  have HSUM : Hid (n9 + ln = dn) := by
                    have h1 := orphans_len HMP.out
                    rw [← HG.out, List.length_map, List.length_map] at h1
                    have := HNL.out; have := HLL.out; have := HLN.out; have := HDN.out
                    unfold Hid
                    omega
                  have hct2 : ct = n9 := HCF.out
                  have hwr : IntKind.i64.wrap ((n9 : Int) + (ln : Int)) = (dn : Int) := by rw [wrap_i64W (by omega) (by omega)]; have := HSUM.out; omega
                  subst hct2
                  clear e2 hbl
                  go_upto_region 41 with fail
                  have B : Hid (Below wr.heap.size wr wr.drew) := Lib.hid ((Below.refl wr.heap.size wr).drew)
                  have KSS : Hid (∀ w' : World, Below wr.heap.size wr w' → (fun w' => w'.cell? ⟨gr, 5, none⟩ = some (.slice (some ⟨b, off, none⟩) cn1 cc1) ∧ w'.cell? ⟨b, off + ki * 5 + 2, none⟩ = some (.int .i64 tt) ∧ w'.cell? ⟨w.heap.size, 7, none⟩ = some (.int .i64 tt) ∧ w'.cell? ⟨w.heap.size, 8, none⟩ = some (.slice DA dn dc)) w') := Lib.hid fun w' hb => ⟨(BR8.out.step (HB.out.step' hb)).cell 5, (hb.cell (World.block_lt_of_cell? wr _ HC2.out)).trans HC2.out, (BX7.out.step (HB.out.step' hb)).cell 7, (BX7.out.step (HB.out.step' hb)).cell 8⟩
                  refine wp_region_noPanic ?_
                  refine wp_region_held_drew (S := (fun w' => w'.cell? ⟨gr, 5, none⟩ = some (.slice (some ⟨b, off, none⟩) cn1 cc1) ∧ w'.cell? ⟨b, off + ki * 5 + 2, none⟩ = some (.int .i64 tt) ∧ w'.cell? ⟨w.heap.size, 7, none⟩ = some (.int .i64 tt) ∧ w'.cell? ⟨w.heap.size, 8, none⟩ = some (.slice DA dn dc))) (by kernel_rfl) ?_ (fun hHeld => ?_)
                  · (try dsimp only); exact KSS.out _ B.out
                  generalize wr.drew = v0 at *
                  refine wpAnyH_take (i := 0) (v := ?_) (take_at rfl) (by kernel_rfl) (by kernel_rfl) (by kernel_rfl) (fun _ _ _ h => h) (Or.inl ⟨by rfl, ?_⟩) (by assumption) ?_
                  rotate_left
                  · intro w' hSw; (try dsimp only at hSw); go_simp; (try with_reducible rfl)
                  (try simp only [Act.put, List.setIfInBounds_toArray, List.set_cons_zero, List.set_cons_succ])
                  refine wpAnyH_take (i := 1) (v := ?_) (take_at rfl) (by kernel_rfl) (by kernel_rfl) (by kernel_rfl) (fun _ _ _ h => h) (Or.inl ⟨by rfl, ?_⟩) (by assumption) ?_
                  rotate_left
                  · intro w' hSw; (try dsimp only at hSw); go_simp; (try with_reducible rfl)
                  (try simp only [Act.put, List.setIfInBounds_toArray, List.set_cons_zero, List.set_cons_succ])
                  refine wpAnyH_take (i := 2) (v := ?_) (take_at rfl) (by kernel_rfl) (by kernel_rfl) (by kernel_rfl) (fun _ _ _ h => h) (Or.inl ⟨by rfl, ?_⟩) (by assumption) ?_
                  rotate_left
                  · intro w' hSw; (try dsimp only at hSw); go_simp; (try with_reducible rfl)
                  (try simp only [Act.put, List.setIfInBounds_toArray, List.set_cons_zero, List.set_cons_succ])
                  refine wpAnyH_take (i := 3) (v := ?_) (take_at rfl) (by kernel_rfl) (by kernel_rfl) (by kernel_rfl) (fun _ _ _ h => h) (Or.inl ⟨by rfl, ?_⟩) (by assumption) ?_
                  rotate_left
                  · intro w' hSw; (try dsimp only at hSw); go_simp; (try with_reducible rfl)
                  (try simp only [Act.put, List.setIfInBounds_toArray, List.set_cons_zero, List.set_cons_succ])
                  refine wpAnyH_take (i := 4) (v := ?_) (take_at rfl) (by kernel_rfl) (by kernel_rfl) (by kernel_rfl) (fun _ _ _ h => h) (Or.inl ⟨by rfl, ?_⟩) (by assumption) ?_
                  rotate_left
                  · intro w' hSw; (try dsimp only at hSw); go_simp; (try with_reducible rfl)
                  (try simp only [Act.put, List.setIfInBounds_toArray, List.set_cons_zero, List.set_cons_succ])
                  refine wpAnyH_take (i := 5) (v := ?_) (take_at rfl) (by kernel_rfl) (by kernel_rfl) (by kernel_rfl) (fun _ _ _ h => h) (Or.inl ⟨by rfl, ?_⟩) (by assumption) ?_
                  rotate_left
                  · intro w' hSw; (try dsimp only at hSw); go_simp; (try with_reducible rfl)
                  (try simp only [Act.put, List.setIfInBounds_toArray, List.set_cons_zero, List.set_cons_succ])
                  refine wpAnyH_take (i := 6) (v := ?_) (take_at rfl) (by kernel_rfl) (by kernel_rfl) (by kernel_rfl) (fun _ _ _ h => h) (Or.inl ⟨by rfl, ?_⟩) (by assumption) ?_
                  rotate_left
                  · intro w' hSw; (try dsimp only at hSw); go_simp; (try with_reducible rfl)
                  (try simp only [Act.put, List.setIfInBounds_toArray, List.set_cons_zero, List.set_cons_succ])
                  refine wpAnyH_take (i := 7) (v := ?_) (take_at rfl) (by kernel_rfl) (by kernel_rfl) (by kernel_rfl) (fun _ _ _ h => h) (Or.inl ⟨by rfl, ?_⟩) (by assumption) ?_
                  rotate_left
                  · intro w' hSw; (try dsimp only at hSw); go_simp; (try with_reducible rfl)
                  (try simp only [Act.put, List.setIfInBounds_toArray, List.set_cons_zero, List.set_cons_succ])
                  refine wpAnyH_take (i := 8) (v := ?_) (take_at rfl) (by kernel_rfl) (by kernel_rfl) (by kernel_rfl) (fun _ _ _ h => h) (Or.inl ⟨by rfl, ?_⟩) (by assumption) ?_
                  rotate_left
                  · intro w' hSw; (try dsimp only at hSw); go_simp; (try with_reducible rfl)
                  (try simp only [Act.put, List.setIfInBounds_toArray, List.set_cons_zero, List.set_cons_succ])
                  refine wpAnyH_take (i := 9) (v := ?_) (take_at rfl) (by kernel_rfl) (by kernel_rfl) (by kernel_rfl) (fun _ _ _ h => h) (Or.inl ⟨by rfl, ?_⟩) (by assumption) ?_
                  rotate_left
                  · intro w' hSw; (try dsimp only at hSw); go_simp; (try with_reducible rfl)
                  (try simp only [Act.put, List.setIfInBounds_toArray, List.set_cons_zero, List.set_cons_succ])
                  refine wpAnyH_take (i := 10) (v := ?_) (take_at rfl) (by kernel_rfl) (by kernel_rfl) (by kernel_rfl) (fun _ _ _ h => h) (Or.inl ⟨by rfl, ?_⟩) (by assumption) ?_
                  rotate_left
                  · intro w' hSw; (try dsimp only at hSw); go_simp; (try with_reducible rfl)
                  (try simp only [Act.put, List.setIfInBounds_toArray, List.set_cons_zero, List.set_cons_succ])
                  refine wpAnyH_take (i := 11) (v := ?_) (take_at rfl) (by kernel_rfl) (by kernel_rfl) (by kernel_rfl) (fun _ _ _ h => h) (Or.inl ⟨by rfl, ?_⟩) (by assumption) ?_
                  rotate_left
                  · intro w' hSw; (try dsimp only at hSw); go_simp; (try with_reducible rfl)
                  (try simp only [Act.put, List.setIfInBounds_toArray, List.set_cons_zero, List.set_cons_succ])
                  refine wpAnyH_take (i := 12) (v := ?_) (take_at rfl) (by kernel_rfl) (by kernel_rfl) (by kernel_rfl) (fun _ _ _ h => h) (Or.inl ⟨by rfl, ?_⟩) (by assumption) ?_
                  rotate_left
                  · intro w' hSw; (try dsimp only at hSw); go_simp; (try with_reducible rfl)
                  (try simp only [Act.put, List.setIfInBounds_toArray, List.set_cons_zero, List.set_cons_succ])
                  refine wpAnyH_take (i := 13) (v := ?_) (take_at rfl) (by kernel_rfl) (by kernel_rfl) (by kernel_rfl) (fun _ _ _ h => h) (Or.inl ⟨by rfl, ?_⟩) (by assumption) ?_
                  rotate_left
                  · intro w' hSw; (try dsimp only at hSw); go_simp; (try with_reducible rfl)
                  (try simp only [Act.put, List.setIfInBounds_toArray, List.set_cons_zero, List.set_cons_succ])
                  refine wpAnyH_take (i := 14) (v := ?_) (take_at rfl) (by kernel_rfl) (by kernel_rfl) (by kernel_rfl) (fun _ _ _ h => h) (Or.inl ⟨by rfl, ?_⟩) (by assumption) ?_
                  rotate_left
                  · intro w' hSw; (try dsimp only at hSw); go_simp; (try with_reducible rfl)
                  (try simp only [Act.put, List.setIfInBounds_toArray, List.set_cons_zero, List.set_cons_succ])
                  refine wpAnyH_take (i := 15) (v := ?_) (take_at rfl) (by kernel_rfl) (by kernel_rfl) (by kernel_rfl) (fun _ _ _ h => h) (Or.inl ⟨by rfl, ?_⟩) (by assumption) ?_
                  rotate_left
                  · intro w' hSw; (try dsimp only at hSw); go_simp; (try with_reducible rfl)
                  (try simp only [Act.put, List.setIfInBounds_toArray, List.set_cons_zero, List.set_cons_succ])
                  refine wpAnyH_take (i := 16) (v := ?_) (take_at rfl) (by kernel_rfl) (by kernel_rfl) (by kernel_rfl) (fun _ _ _ h => h) (Or.inl ⟨by rfl, ?_⟩) (by assumption) ?_
                  rotate_left
                  · intro w' hSw; (try dsimp only at hSw); go_simp; (try with_reducible rfl)
                  (try simp only [Act.put, List.setIfInBounds_toArray, List.set_cons_zero, List.set_cons_succ])
                  refine wpAnyH_take (i := 17) (v := ?_) (take_at rfl) (by kernel_rfl) (by kernel_rfl) (by kernel_rfl) (fun _ _ _ h => h) (Or.inl ⟨by rfl, ?_⟩) (by assumption) ?_
                  rotate_left
                  · intro w' hSw; (try dsimp only at hSw); go_simp; (try with_reducible rfl)
                  (try simp only [Act.put, List.setIfInBounds_toArray, List.set_cons_zero, List.set_cons_succ])
                  refine wpAnyH_take (i := 18) (v := ?_) (take_at rfl) (by kernel_rfl) (by kernel_rfl) (by kernel_rfl) (fun _ _ _ h => h) (Or.inl ⟨by rfl, ?_⟩) (by assumption) ?_
                  rotate_left
                  · intro w' hSw; (try dsimp only at hSw); go_simp; (try with_reducible rfl)
                  (try simp only [Act.put, List.setIfInBounds_toArray, List.set_cons_zero, List.set_cons_succ])
                  refine wpAnyH_take (i := 19) (v := ?_) (take_at rfl) (by kernel_rfl) (by kernel_rfl) (by kernel_rfl) (fun _ _ _ h => h) (Or.inl ⟨by rfl, ?_⟩) (by assumption) ?_
                  rotate_left
                  · intro w' hSw; (try dsimp only at hSw); go_simp; (try with_reducible rfl)
                  (try simp only [Act.put, List.setIfInBounds_toArray, List.set_cons_zero, List.set_cons_succ])
                  refine wpAnyH_take (i := 20) (v := ?_) (take_at rfl) (by kernel_rfl) (by kernel_rfl) (by kernel_rfl) (fun _ _ _ h => h) (Or.inl ⟨by rfl, ?_⟩) (by assumption) ?_
                  rotate_left
                  · intro w' hSw; (try dsimp only at hSw); go_simp; (try with_reducible rfl)
                  (try simp only [Act.put, List.setIfInBounds_toArray, List.set_cons_zero, List.set_cons_succ])
                  refine wpAnyH_take (i := 21) (v := ?_) (take_at rfl) (by kernel_rfl) (by kernel_rfl) (by kernel_rfl) (fun _ _ _ h => h) (Or.inl ⟨by rfl, ?_⟩) (by assumption) ?_
                  rotate_left
                  · intro w' hSw; (try dsimp only at hSw); go_simp; (try with_reducible rfl)
                  (try simp only [Act.put, List.setIfInBounds_toArray, List.set_cons_zero, List.set_cons_succ])
                  refine wpAnyH_take (i := 22) (v := ?_) (take_at rfl) (by kernel_rfl) (by kernel_rfl) (by kernel_rfl) (fun _ _ _ h => h) (Or.inl ⟨by rfl, ?_⟩) (by assumption) ?_
                  rotate_left
                  · intro w' hSw; (try dsimp only at hSw); go_simp; (try with_reducible rfl)
                  (try simp only [Act.put, List.setIfInBounds_toArray, List.set_cons_zero, List.set_cons_succ])
                  refine wpAnyH_take (i := 23) (v := ?_) (take_at rfl) (by kernel_rfl) (by kernel_rfl) (by kernel_rfl) (fun _ _ _ h => h) (Or.inl ⟨by rfl, ?_⟩) (by assumption) ?_
                  rotate_left
                  · intro w' hSw; (try dsimp only at hSw); go_simp; (try with_reducible rfl)
                  (try simp only [Act.put, List.setIfInBounds_toArray, List.set_cons_zero, List.set_cons_succ])
                  refine wpAnyH_take (i := 24) (v := ?_) (take_at rfl) (by kernel_rfl) (by kernel_rfl) (by kernel_rfl) (fun _ _ _ h => h) (Or.inl ⟨by rfl, ?_⟩) (by assumption) ?_
                  rotate_left
                  · intro w' hSw; (try dsimp only at hSw); go_simp; (try with_reducible rfl)
                  (try simp only [Act.put, List.setIfInBounds_toArray, List.set_cons_zero, List.set_cons_succ])
                  refine wpAnyH_take (i := 25) (v := ?_) (take_at rfl) (by kernel_rfl) (by kernel_rfl) (by kernel_rfl) (fun _ _ _ h => h) (Or.inl ⟨by rfl, ?_⟩) (by assumption) ?_
                  rotate_left
                  · intro w' hSw; (try dsimp only at hSw); go_simp; (try with_reducible rfl)
                  (try simp only [Act.put, List.setIfInBounds_toArray, List.set_cons_zero, List.set_cons_succ])
                  refine wpAnyH_take (i := 26) (v := ?_) (take_at rfl) (by kernel_rfl) (by kernel_rfl) (by kernel_rfl) (fun _ _ _ h => h) (Or.inl ⟨by rfl, ?_⟩) (by assumption) ?_
                  rotate_left
                  · intro w' hSw; (try dsimp only at hSw); go_simp; (try with_reducible rfl)
                  (try simp only [Act.put, List.setIfInBounds_toArray, List.set_cons_zero, List.set_cons_succ])
                  refine wpAnyH_take (i := 27) (v := ?_) (take_at rfl) (by kernel_rfl) (by kernel_rfl) (by kernel_rfl) (fun _ _ _ h => h) (Or.inl ⟨by rfl, ?_⟩) (by assumption) ?_
                  rotate_left
                  · intro w' hSw; (try dsimp only at hSw); go_simp; (try with_reducible rfl)
                  (try simp only [Act.put, List.setIfInBounds_toArray, List.set_cons_zero, List.set_cons_succ])
                  refine wpAnyH_take (i := 28) (v := ?_) (take_at rfl) (by kernel_rfl) (by kernel_rfl) (by kernel_rfl) (fun _ _ _ h => h) (Or.inl ⟨by rfl, ?_⟩) (by assumption) ?_
                  rotate_left
                  · intro w' hSw; (try dsimp only at hSw); go_simp; (try with_reducible rfl)
                  (try simp only [Act.put, List.setIfInBounds_toArray, List.set_cons_zero, List.set_cons_succ])
                  refine wpAnyH_take (i := 29) (v := ?_) (take_at rfl) (by kernel_rfl) (by kernel_rfl) (by kernel_rfl) (fun _ _ _ h => h) (Or.inl ⟨by rfl, ?_⟩) (by assumption) ?_
                  rotate_left
                  · intro w' hSw; (try dsimp only at hSw); go_simp; (try with_reducible rfl)
                  (try simp only [Act.put, List.setIfInBounds_toArray, List.set_cons_zero, List.set_cons_succ])
                  refine wpAnyH_ready (rs := [30]) (by kernel_rfl) (by simp) ?_
                  refine AllReadyH.cons (take_at rfl) (fun K hK => ?_) AllReadyH.nil
                  go_simp
                  refine (HAW.out v0 (BE7.out.step' (HB.out.step' B.out))).mono ?_
                  rintro e3 y1 ⟨rfl, hb⟩
                  replace B := Lib.hid (B.out.step' hb)
                  clear hb
                  (try go_wp2_with fail)
                  refine hK.out _ _ ?_ (fun hHeld2 => ?_)
                  · (try dsimp only); exact KSS.out _ B.out
                  clear hK K hHeld
                  have hHeld := hHeld2
                  clear hHeld2
                  (try simp only [Act.put, List.setIfInBounds_toArray, List.set_cons_zero, List.set_cons_succ])
                  refine wpAnyH_take (i := 31) (v := ?_) (take_at rfl) (by kernel_rfl) (by kernel_rfl) (by kernel_rfl) (fun _ _ _ h => h) (Or.inl ⟨by rfl, ?_⟩) (by assumption) ?_
                  rotate_left
                  · intro w' hSw; (try dsimp only at hSw); go_simp; (try with_reducible rfl)
                  (try simp only [Act.put, List.setIfInBounds_toArray, List.set_cons_zero, List.set_cons_succ])
                  refine wpAnyH_take (i := 32) (v := ?_) (take_at rfl) (by kernel_rfl) (by kernel_rfl) (by kernel_rfl) (fun _ _ _ h => h) (Or.inl ⟨by rfl, ?_⟩) (by assumption) ?_
                  rotate_left
                  · intro w' hSw; (try dsimp only at hSw); go_simp; (try with_reducible rfl)
                  (try simp only [Act.put, List.setIfInBounds_toArray, List.set_cons_zero, List.set_cons_succ])
                  refine wpAnyH_done (by kernel_rfl) ?_ _
                  refine NoPanic.normal ?_
                  have BZ := Lib.hid (BE7.out.step' (HB.out.step' B.out))
                  clear hHeld KSS B
                  go_wp2_with fail
                  go_ret
                  exact ⟨rfl, BZ.out⟩

end Go.Proofs.YtlmmgjgkmbmgpaaGreatDoor


