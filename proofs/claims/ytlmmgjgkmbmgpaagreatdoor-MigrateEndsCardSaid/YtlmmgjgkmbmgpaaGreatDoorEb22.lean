/- Parts of the proof, joined: MgAwake. -/
import Derived.Test.YtlmmgjgkmbmgpaaGreatDoorEb21
import Derived.Test.YtlmmgjgkmbmgpaaGreatDoorEb20
import Derived.Test.YtlmmgjgkmbmgpaaGreatDoorEb19
import Derived.Test.YtlmmgjgkmbmgpaaGreatDoorEb15
/- The first check of the layer migrate. Printed by gen_mgawake.py. -/
namespace Go.Proofs.YtlmmgjgkmbmgpaaGreatDoor
open Go.RowKit
set_option linter.unusedSimpArgs false

def vId : Val := .mk 5 0 ByteArray.empty [] [.mk idB (vI 1)]
theorem sound_id : SoundV nameB vId := (SoundV_iff _ _).2 ⟨⟨.inr (.inr (.inr rfl)), .inr (.inr (.inr rfl)), .inr rfl, .inl rfl, by simp [vId, Val.k]⟩, by simp [vId, Val.l], by intro f hf; simp [vId, Val.d] at hf; subst hf; exact sound_i 1, by
    refine ⟨fun f hf => ?_, by simp [vId, Val.d]⟩
    simp [vId, Val.d] at hf
    subst hf
    show nameB idB = true
    kernel_rfl⟩
theorem valid_id : validV vId = true := by
  have h1 : vId.size = 2 := by simp [vId, vI, Val.size, sizeD, sizeF]
  have h2 : vId.height = 2 := by simp [vId, vI, Val.height, heightD, heightF]
  unfold validV
  rw [decide_eq_true (by omega), decide_eq_true (by omega), soundB_true sound_id]
  rfl
theorem at_id : keyAt vId [ka] = some nullV := by
  refine keyAt_none (by show (5 : Int) ≠ 6; decide) ?_
  have h : (getV vId ka).isNone = true := by kernel_rfl
  exact Option.isNone_iff_eq_none.1 h
theorem vals_id : valsR ks1 vId = some [nullV] := by
  rw [valsR_yes rfl valid_id, ks1, valsAt, at_id]
  rfl
theorem keyR_null : keyR [nullV] = (strOfNums (encAll [nullV]), 0) := keyR_yes (by unfold allowsB; simp [allow_valid valid_null])
theorem enc_id : encR ks1 false vId = (strOfNums (encAll [nullV]), 0) := by rw [encR_some vals_id, hashes_no, keyR_null]
abbrev R51 : Ro := ⟨⟨#[99]⟩, ks1, false, 1, 1, [⟨ByteArray.empty, ByteArray.empty, 0, 1, false⟩]⟩
theorem ins_id : insD R51 ByteArray.empty ByteArray.empty vId = true := by
  rw [insD_yes (K1 := strOfNums (encAll [nullV])) enc_id, inB_open]
  · rw [show ByteArray.empty.toList = [] by kernel_rfl]
    generalize (strOfNums (encAll [nullV])).toList = l
    cases l <;> rfl
  · kernel_rfl
abbrev M51 : Mv := ⟨⟨#[99]⟩, ByteArray.empty, ByteArray.empty, 0, 1, 1, [], []⟩
noncomputable abbrev M52 : Mv := ⟨⟨#[99]⟩, ByteArray.empty, ByteArray.empty, 0, 1, 2, [putW ⟨#[99]⟩ vId], []⟩
theorem start_1 : startR R51 ByteArray.empty 1 = (M51, 0) := by kernel_rfl
theorem start_0 : startR R51 ByteArray.empty 0 = (Mv.zero, 23) := by kernel_rfl
theorem copyL_id : copyL R51 ⟨#[99]⟩ ByteArray.empty ByteArray.empty [vId] = [putW ⟨#[99]⟩ vId] := by
  unfold copyL
  rw [List.filter_cons, ins_id]
  rfl
theorem rw_id {w : World} {g : Nat} (h : Blk w g 98 #[.string idB, .int .i64 3, .int .i64 1, .string ByteArray.empty, .slice none 0 0, .slice none 0 0]) : RW w (cD g) vId := by
  refine RVs.shut ⟨rfl, rfl, rfl, by show 0 ≤ reach; decide, rfl, Nat.le_refl _, by show 0 * 80 ≤ reach; decide, fun h => absurd h (by show ¬ (0 < 0); omega), rfl, Nat.le_refl _, by show 1 * 96 ≤ reach; decide, fun _ => ⟨g, 0, rfl, Ft.top, fun i f hi => ?_⟩⟩
  cases i with
  | zero =>
    simp [vId, Val.d] at hi
    subst hi
    exact ⟨h.cell 0, by show 3 ≤ reach; decide, cI 1, ⟨h.cell 1, h.cell 2, h.cell 3, h.cell 4, h.cell 5⟩, rw_i 1 w⟩
  | succ i => simp [vId, Val.d] at hi
theorem cs_one {w : World} {g : Nat} {c : Ch} (h : Blk w g 80 (recC c).toArray) : CS w (some ⟨g, 0, none⟩) 1 1 [c] := by
  refine ⟨⟨rfl, Nat.le_refl _, fun _ => ⟨g, 0, rfl, h.lt, fun i a hi j v hj => ?_⟩⟩, by show 1 * 56 ≤ reach; decide⟩
  cases i with
  | zero =>
    simp at hi
    subst hi
    simp only [Nat.zero_mul, Nat.zero_add]
    rw [h.cell, List.getElem?_toArray]
    exact hj
  | succ i => simp at hi
/-- the routes of the first check -/
def PlOk (w : World) (e : Ending) (w' : World) : Prop := ∃ a : RA, e = .returned (rval a R51) ∧ RR w' a R51 ∧ Below w.heap.size w w'
set_option maxRecDepth 100000 in
set_option maxHeartbeats 1000000 in
theorem plain_any (w : World) : Calls Tryz.prog 37 #[] w (PlOk w) := by
  obtain ⟨W2, hW⟩ : ∃ W2, (((w.alloc (Obj.cells (rarr ⟨some ⟨w.heap.size + 1 + 1, 0, none⟩, 1, 1, some ⟨w.heap.size + 1 + 1 + 1, 0, none⟩, 1, 1⟩ R51) 27)).alloc (Obj.cells #[.string ka] 9)).alloc (Obj.cells #[.slice (some ⟨w.heap.size + 1, 0, none⟩) 1 1, .bool false] 130)).alloc (Obj.cells (recC ⟨ByteArray.empty, ByteArray.empty, 0, 1, false⟩).toArray 80) = W2 := ⟨_, rfl⟩
  have hR : Hid (Blk W2 w.heap.size 27 (rarr ⟨some ⟨w.heap.size + 1 + 1, 0, none⟩, 1, 1, some ⟨w.heap.size + 1 + 1 + 1, 0, none⟩, 1, 1⟩ R51)) := by rw [← hW]; exact (((Blk.new_at rfl).alloc _).alloc _).alloc _
  have hS : Hid (Blk W2 (w.heap.size + 1) 9 #[.string ka]) := by rw [← hW]; exact ((Blk.new_at (by simp)).alloc _).alloc _
  have hO : Hid (Blk W2 (w.heap.size + 1 + 1) 130 #[.slice (some ⟨w.heap.size + 1, 0, none⟩) 1 1, .bool false]) := by rw [← hW]; exact (Blk.new_at (by simp)).alloc _
  have hC : Hid (Blk W2 (w.heap.size + 1 + 1 + 1) 80 (recC ⟨ByteArray.empty, ByteArray.empty, 0, 1, false⟩).toArray) := by rw [← hW]; exact Blk.new_at (by simp)
  have hE : Hid (Below w.heap.size w W2) := by rw [← hW]; exact ((((Below.refl _ _).alloc (Nat.le_refl _) _).alloc (by simp) _).alloc (by simp; omega) _).alloc (by simp; omega) _
  have HW := Lib.hid hW
  clear hW
  go_enter Tryz.func37, Tryz.ntmps37
  go_wp2_with fail
  change bodyPost _ _ _ _ _ ((((w.alloc (Obj.cells (rarr ⟨some ⟨w.heap.size + 1 + 1, 0, none⟩, 1, 1, some ⟨w.heap.size + 1 + 1 + 1, 0, none⟩, 1, 1⟩ R51) 27)).alloc (Obj.cells #[.string ka] 9)).alloc (Obj.cells #[.slice (some ⟨w.heap.size + 1, 0, none⟩) 1 1, .bool false] 130)).alloc (Obj.cells (recC ⟨ByteArray.empty, ByteArray.empty, 0, 1, false⟩).toArray 80))
  rw [HW.out]
  exact bodyPost_ret (results_ro rfl _ w.heap.size rfl W2 ⟨some ⟨w.heap.size + 1 + 1, 0, none⟩, 1, 1, some ⟨w.heap.size + 1 + 1 + 1, 0, none⟩, 1, 1⟩ R51 hR.out) rfl
    ⟨⟨some ⟨w.heap.size + 1 + 1, 0, none⟩, 1, 1, some ⟨w.heap.size + 1 + 1 + 1, 0, none⟩, 1, 1⟩, rfl, ⟨by show 1 ≤ reach; decide, ks_ka hS.out hO.out, cs_one hC.out⟩, hE.out⟩

set_option maxRecDepth 100000 in
set_option maxHeartbeats 8000000 in
theorem awake51_any (w : World) (hT : Tabs w) : Calls Tryz.prog 9 #[] w fun e w' => e = .returned (.bool true) ∧ Below w.heap.size w w' := by
  have HT := Lib.hid hT
  clear hT
  have Z := Lib.hid (Below.refl w.heap.size w)
  go_enter Tryz.func9, Tryz.ntmps9
  go_wp2_with fail
  refine (plain_any _).mono ?_
  rintro e w1 ⟨a1, rfl, hr, hb⟩
  have HS := start_any R51 a1 ByteArray.empty 1 w1 hr
  rw [start_1] at HS
  have HS1 := Lib.hid HS
  have Z1 := Lib.hid (Z.out.step' hb)
  clear hb hr Z HS
  go_wp2_with fail
  refine HS1.out.mono ?_
  rintro e w2 ⟨rfl, hb⟩
  have Z2 := Lib.hid (Z1.out.step' hb)
  clear hb HS1 Z1
  go_upto_region 2 with fail
  change Code.wp _ _ _ _ (w2.alloc (Obj.cells (marr MA.zero M51) 37))
  have P1 : Hid (Blk (w2.alloc (Obj.cells (marr MA.zero M51) 37)) w2.heap.size 37 (marr MA.zero M51)) := Blk.new_at rfl
  have Z3 := Lib.hid (Z2.out.alloc Z2.out.size (Obj.cells (marr MA.zero M51) 37))
  clear Z2
  generalize w2.alloc (Obj.cells (marr MA.zero M51) 37) = w3 at *
  generalize w2.heap.size = gm at *
  go_wp2_with fail
  refine (plain_any _).mono ?_
  rintro e w4 ⟨a2, rfl, hr, hb⟩
  have HS := start_any R51 a2 ByteArray.empty 0 w4 hr
  rw [start_0] at HS
  have HS1 := Lib.hid HS
  have Z4 := Lib.hid (Z3.out.step' hb)
  replace P1 := Lib.hid (P1.out.step hb)
  clear hb hr Z3 HS
  go_wp2_with fail
  refine HS1.out.mono ?_
  rintro e w5 ⟨rfl, hb⟩
  have Z5 := Lib.hid (Z4.out.step' hb)
  replace P1 := Lib.hid (P1.out.step hb)
  clear hb HS1 Z4
  go_upto_region 3 with fail
  change Code.wp _ _ _ _ (w5.alloc (Obj.cells (marr MA.zero Mv.zero) 37))
  have Z6 := Lib.hid (Z5.out.alloc Z5.out.size (Obj.cells (marr MA.zero Mv.zero) 37))
  replace P1 := Lib.hid (P1.out.alloc (Obj.cells (marr MA.zero Mv.zero) 37))
  clear Z5
  generalize w5.alloc (Obj.cells (marr MA.zero Mv.zero) 37) = w5b at *
  generalize w5.heap.size = gz at *
  go_wp2_with fail
  refine (rint01_any 1 _).mono ?_
  rintro e w5c ⟨rfl, hb⟩
  have Z7 := Lib.hid (Z6.out.step' hb)
  replace P1 := Lib.hid (P1.out.step hb)
  clear hb Z6
  go_upto_region 4 with fail
  obtain ⟨w6, hW⟩ : ∃ w6, (w5c.alloc (Obj.cells #[.string idB, .int .i64 3, .int .i64 1, .string ByteArray.empty, .slice none 0 0, .slice none 0 0] 98)).alloc (Obj.cells (cD w5c.heap.size).arr 46) = w6 := ⟨_, rfl⟩
  have P2 : Hid (Blk w6 (w5c.heap.size + 1) 46 (cD w5c.heap.size).arr) := by rw [← hW]; exact Blk.new_at (by simp)
  have P3 : Hid (Blk w6 w5c.heap.size 98 #[.string idB, .int .i64 3, .int .i64 1, .string ByteArray.empty, .slice none 0 0, .slice none 0 0]) := by rw [← hW]; exact (Blk.new_at rfl).alloc _
  have hb6 : Below w5c.heap.size w5c w6 := by rw [← hW]; exact ((Below.refl _ _).alloc (Nat.le_refl _) _).alloc (by simp) _
  replace P1 := Lib.hid (P1.out.step hb6)
  have Z6 := Lib.hid (Z7.out.step' hb6)
  change Code.wp _ _ _ _ ((w5c.alloc (Obj.cells #[.string idB, .int .i64 3, .int .i64 1, .string ByteArray.empty, .slice none 0 0, .slice none 0 0] 98)).alloc (Obj.cells (cD w5c.heap.size).arr 46))
  rw [hW]
  have P1L := Lib.hid P1.out.lt
  have P2L := Lib.hid P2.out.lt
  clear hW hb6 Z7
  generalize w5c.heap.size + 1 = gd at *
  generalize w5c.heap.size = gf at *
  go_cut [6, 7] (fun v6 v7 wx => ∃ (g9 : Nat) (mb : MA), v6 = .pointer (some ⟨g9, 0, none⟩) ∧ v7 = .int .i64 0 ∧ Blk wx g9 37 (marr mb M52) ∧ MR wx mb M52 ∧ Blk wx gm 37 (marr MA.zero M51) ∧ Below w6.heap.size w6 wx)
  case first =>
    refine wp_region_noPanic ?_
    refine wp_region_held_drew (S := (fun w' => Blk w' gm 37 (marr MA.zero M51) ∧ Blk w' gd 46 (cD gf).arr)) (by kernel_rfl) ?_ (fun hHeld => ?_)
    · (try dsimp only); exact ⟨P1.out, P2.out⟩
    have B : Hid (Below w6.heap.size w6 w6.drew) := Lib.hid ((Below.refl w6.heap.size w6).drew)
    replace P1 := Lib.hid P1.out.drew
    replace P2 := Lib.hid P2.out.drew
    replace P3 := Lib.hid P3.out.drew
    generalize w6.drew = v0 at *
    refine wpAnyH_take (i := 0) (v := .agg (marr MA.zero M51)) (take_at rfl) (by kernel_rfl) (by kernel_rfl) (by kernel_rfl) (fun _ _ _ h => h) (Or.inl ⟨by rfl, ?_⟩) (by assumption) ?_
    · intro w' hSw; exact exec_row rfl rfl hSw.1 Tryz.underlying37 rfl (by rw [sizeM]; rfl)
    (try simp only [Act.put, List.setIfInBounds_toArray, List.set_cons_zero, List.set_cons_succ])
    refine wpAnyH_take (i := 2) (v := .agg (cD gf).arr) (take_at rfl) (by kernel_rfl) (by kernel_rfl) (by kernel_rfl) (fun _ _ _ h => h) (Or.inl ⟨by rfl, ?_⟩) (by assumption) ?_
    · intro w' hSw; exact exec_row rfl rfl hSw.2 Tryz.underlying46 rfl (by rw [sizeV]; rfl)
    (try simp only [Act.put, List.setIfInBounds_toArray, List.set_cons_zero, List.set_cons_succ])
    refine wpAnyH_ready (rs := [1, 3, 8]) (by kernel_rfl) (by simp) ?_
    refine AllReadyH.cons (take_at rfl) (fun K hK => ?_) (AllReadyH.cons (take_at rfl) (fun K hK => ?_) (AllReadyH.cons (take_at rfl) (fun K hK => ?_) AllReadyH.nil))
    · go_simp
      refine (plain_any v0).mono ?_
      rintro e3 y1 ⟨a9, rfl, hr, hb⟩
      replace P1 := Lib.hid (P1.out.step hb)
      replace P2 := Lib.hid (P2.out.step hb)
      replace P3 := Lib.hid (P3.out.step hb)
      have RP := Lib.hid hr
      replace B := Lib.hid (B.out.step' hb)
      clear hb hr
      (try go_wp2_with fail)
      refine hK.out _ _ ?_ (fun hHeld2 => ?_)
      · (try dsimp only); exact ⟨P1.out, P2.out⟩
      clear hK K hHeld
      have hHeld := hHeld2
      clear hHeld2
      (try simp only [Act.put, List.setIfInBounds_toArray, List.set_cons_zero, List.set_cons_succ])
      refine wpAnyH_ready (rs := [3, 8]) (by kernel_rfl) (by simp) ?_
      refine AllReadyH.cons (take_at rfl) (fun K hK => ?_) (AllReadyH.cons (take_at rfl) (fun K hK => ?_) AllReadyH.nil)
      · go_simp
        have GS : Hid (Blk (y1.alloc (Obj.cells (cD gf).arr 46)) y1.heap.size 46 (cD gf).arr) := Blk.new_at rfl
        replace P1 := Lib.hid (P1.out.alloc (Obj.cells (cD gf).arr 46))
        replace P2 := Lib.hid (P2.out.alloc (Obj.cells (cD gf).arr 46))
        replace P3 := Lib.hid (P3.out.alloc (Obj.cells (cD gf).arr 46))
        replace RP := Lib.hid (RP.out.alloc (Obj.cells (cD gf).arr 46))
        replace B := Lib.hid (B.out.alloc B.out.size (Obj.cells (cD gf).arr 46))
        change K _ (y1.alloc (Obj.cells (cD gf).arr 46))
        generalize y1.alloc (Obj.cells (cD gf).arr 46) = y2 at *
        generalize y1.heap.size = g3 at *
        refine hK.out _ _ ?_ (fun hHeld2 => ?_)
        · (try dsimp only); exact ⟨P1.out, P2.out⟩
        clear hK K hHeld
        have hHeld := hHeld2
        clear hHeld2
        (try simp only [Act.put, List.setIfInBounds_toArray, List.set_cons_zero, List.set_cons_succ])
        refine wpAnyH_ready (rs := [4, 8]) (by kernel_rfl) (by simp) ?_
        refine AllReadyH.cons (take_at rfl) (fun K hK => ?_) (AllReadyH.cons (take_at rfl) (fun K hK => ?_) AllReadyH.nil)
        · go_simp
          have HC := mgcopy_any M51 R51 a9 [(cD gf, vId)] (some ⟨g3, 0, none⟩) 1 1 y2 (HT.out.step (Z6.out.step' B.out)) RP.out (by decide) (sl_one GS.out (rw_id P3.out)) (by omega) (by show 1 ≤ reach; decide) rfl rfl rfl
          rw [show copyL R51 M51.sp M51.lo M51.hi ([(cD gf, vId)].map Prod.snd) = [putW ⟨#[99]⟩ vId] from copyL_id] at HC
          have HC2 := Lib.hid HC
          clear HC
          refine HC2.out.mono ?_
          rintro e3 y3 ⟨mb, rfl, hr, hb⟩
          replace P1 := Lib.hid (P1.out.step hb)
          replace P2 := Lib.hid (P2.out.step hb)
          replace P3 := Lib.hid (P3.out.step hb)
          replace RP := Lib.hid (RP.out.step hb)
          replace GS := Lib.hid (GS.out.step hb)
          have RM := Lib.hid hr
          replace B := Lib.hid (B.out.step' hb)
          clear hb hr HC2
          (try go_wp2_with fail)
          refine hK.out _ _ ?_ (fun hHeld2 => ?_)
          · (try dsimp only); exact ⟨P1.out, P2.out⟩
          clear hK K hHeld
          have hHeld := hHeld2
          clear hHeld2
          (try simp only [Act.put, List.setIfInBounds_toArray, List.set_cons_zero, List.set_cons_succ])
          refine wpAnyH_take (i := 5) (v := ?_) (take_at rfl) (by kernel_rfl) (by kernel_rfl) (by kernel_rfl) (fun _ _ _ h => h) (Or.inl ⟨by rfl, ?_⟩) (by assumption) ?_
          rotate_left
          · intro w' hSw; (try dsimp only at hSw); go_simp; (try with_reducible rfl)
          (try simp only [Act.put, List.setIfInBounds_toArray, List.set_cons_zero, List.set_cons_succ])
          refine wpAnyH_take (i := 6) (v := ?_) (take_at rfl) (by kernel_rfl) (by kernel_rfl) (by kernel_rfl) (fun _ _ _ h => h) (Or.inl ⟨by rfl, ?_⟩) (by assumption) ?_
          rotate_left
          · intro w' hSw; (try dsimp only at hSw); go_simp; (try with_reducible rfl)
          (try simp only [Act.put, List.setIfInBounds_toArray, List.set_cons_zero, List.set_cons_succ])
          refine wpAnyH_take (i := 7) (v := ?_) (take_at rfl) (by kernel_rfl) (by kernel_rfl) (by kernel_rfl) (fun _ _ _ h => h) (Or.inl ⟨by rfl, ?_⟩) (by assumption) ?_
          rotate_left
          · intro w' hSw; (try dsimp only at hSw); go_simp; (try with_reducible rfl)
          (try simp only [Act.put, List.setIfInBounds_toArray, List.set_cons_zero, List.set_cons_succ])
          refine wpAnyH_ready (rs := [8]) (by kernel_rfl) (by simp) ?_
          refine AllReadyH.cons (take_at rfl) (fun K hK => ?_) AllReadyH.nil
          go_simp
          have hg9 : w6.heap.size ≤ y3.heap.size := B.out.size
          have Q9 : Hid (Blk (y3.alloc (Obj.cells (marr MA.zero Mv.zero) 37)) y3.heap.size 37 (marr MA.zero Mv.zero)) := Blk.new_at rfl
          replace P1 := Lib.hid (P1.out.alloc (Obj.cells (marr MA.zero Mv.zero) 37))
          replace P2 := Lib.hid (P2.out.alloc (Obj.cells (marr MA.zero Mv.zero) 37))
          replace P3 := Lib.hid (P3.out.alloc (Obj.cells (marr MA.zero Mv.zero) 37))
          replace RP := Lib.hid (RP.out.alloc (Obj.cells (marr MA.zero Mv.zero) 37))
          replace GS := Lib.hid (GS.out.alloc (Obj.cells (marr MA.zero Mv.zero) 37))
          replace RM := Lib.hid (RM.out.alloc (Obj.cells (marr MA.zero Mv.zero) 37))
          replace B := Lib.hid (B.out.alloc B.out.size (Obj.cells (marr MA.zero Mv.zero) 37))
          change K _ (y3.alloc (Obj.cells (marr MA.zero Mv.zero) 37))
          generalize y3.alloc (Obj.cells (marr MA.zero Mv.zero) 37) = y4 at *
          generalize y3.heap.size = g9 at *
          refine hK.out _ _ ?_ (fun hHeld2 => ?_)
          · (try dsimp only); exact ⟨P1.out, P2.out⟩
          clear hK K hHeld
          have hHeld := hHeld2
          clear hHeld2
          (try simp only [Act.put, List.setIfInBounds_toArray, List.set_cons_zero, List.set_cons_succ])
          refine wpAnyH_ready (rs := [9]) (by kernel_rfl) (by simp) ?_
          refine AllReadyH.cons (take_at rfl) (fun K hK => ?_) AllReadyH.nil
          refine wp_store_row 37 _ _ rfl g9 (marr mb M52) rfl rfl 37 _ Q9.out (by rw [sizeM]; rfl) rfl (marr_all _ _) ?_
          have Q8 := Lib.hid (Blk.row Q9.out (marr mb M52))
          have P8 := Lib.hid (Blk.row_far P1.out (by have := P1L.out; omega : gm ≠ g9) (marr mb M52))
          have V8 := Lib.hid (Blk.row_far P2.out (by have := P2L.out; omega : gd ≠ g9) (marr mb M52))
          have RM8 : Hid (MR (y4.setRow g9 (marr mb M52)) mb M52) := RM.out.row_move Q9.out (by have := P1L.out; omega) (marr mb M52)
          have B8 := Lib.hid (below_row B.out hg9 (marr mb M52))
          clear Q9 P1 P2 RM B
          have Q9 := Q8
          have P1 := P8
          have P2 := V8
          have RM := RM8
          have B := B8
          clear Q8 P8 V8 RM8 B8
          generalize y4.setRow g9 (marr mb M52) = y5 at *
          refine hK.out _ _ ?_ (fun hHeld2 => ?_)
          · (try dsimp only); exact ⟨P1.out, P2.out⟩
          clear hK K hHeld
          have hHeld := hHeld2
          clear hHeld2
          (try simp only [Act.put, List.setIfInBounds_toArray, List.set_cons_zero, List.set_cons_succ])
          refine wpAnyH_take (i := 10) (v := ?_) (take_at rfl) (by kernel_rfl) (by kernel_rfl) (by kernel_rfl) (fun _ _ _ h => h) (Or.inl ⟨by rfl, ?_⟩) (by assumption) ?_
          rotate_left
          · intro w' hSw; (try dsimp only at hSw); go_simp; (try with_reducible rfl)
          (try simp only [Act.put, List.setIfInBounds_toArray, List.set_cons_zero, List.set_cons_succ])
          refine wpAnyH_done (by kernel_rfl) ?_ _
          refine NoPanic.normal ?_
          go_wp2_with fail
          go_meet
          exact ⟨g9, mb, rfl, rfl, Q9.out, RM.out, P1.out, B.out⟩
        · go_simp
          have hg9 : w6.heap.size ≤ y2.heap.size := B.out.size
          have Q9 : Hid (Blk (y2.alloc (Obj.cells (marr MA.zero Mv.zero) 37)) y2.heap.size 37 (marr MA.zero Mv.zero)) := Blk.new_at rfl
          replace P1 := Lib.hid (P1.out.alloc (Obj.cells (marr MA.zero Mv.zero) 37))
          replace P2 := Lib.hid (P2.out.alloc (Obj.cells (marr MA.zero Mv.zero) 37))
          replace P3 := Lib.hid (P3.out.alloc (Obj.cells (marr MA.zero Mv.zero) 37))
          replace RP := Lib.hid (RP.out.alloc (Obj.cells (marr MA.zero Mv.zero) 37))
          replace GS := Lib.hid (GS.out.alloc (Obj.cells (marr MA.zero Mv.zero) 37))
          replace B := Lib.hid (B.out.alloc B.out.size (Obj.cells (marr MA.zero Mv.zero) 37))
          change K _ (y2.alloc (Obj.cells (marr MA.zero Mv.zero) 37))
          generalize y2.alloc (Obj.cells (marr MA.zero Mv.zero) 37) = y6 at *
          generalize y2.heap.size = g9 at *
          refine hK.out _ _ ?_ (fun hHeld2 => ?_)
          · (try dsimp only); exact ⟨P1.out, P2.out⟩
          clear hK K hHeld
          have hHeld := hHeld2
          clear hHeld2
          (try simp only [Act.put, List.setIfInBounds_toArray, List.set_cons_zero, List.set_cons_succ])
          refine wpAnyH_ready (rs := [4]) (by kernel_rfl) (by simp) ?_
          refine AllReadyH.cons (take_at rfl) (fun K hK => ?_) AllReadyH.nil
          go_simp
          have HC := mgcopy_any M51 R51 a9 [(cD gf, vId)] (some ⟨g3, 0, none⟩) 1 1 y6 (HT.out.step (Z6.out.step' B.out)) RP.out (by decide) (sl_one GS.out (rw_id P3.out)) (by omega) (by show 1 ≤ reach; decide) rfl rfl rfl
          rw [show copyL R51 M51.sp M51.lo M51.hi ([(cD gf, vId)].map Prod.snd) = [putW ⟨#[99]⟩ vId] from copyL_id] at HC
          have HC2 := Lib.hid HC
          clear HC
          refine HC2.out.mono ?_
          rintro e3 y7 ⟨mb, rfl, hr, hb⟩
          replace P1 := Lib.hid (P1.out.step hb)
          replace P2 := Lib.hid (P2.out.step hb)
          replace P3 := Lib.hid (P3.out.step hb)
          replace RP := Lib.hid (RP.out.step hb)
          replace GS := Lib.hid (GS.out.step hb)
          replace Q9 := Lib.hid (Q9.out.step hb)
          have RM := Lib.hid hr
          replace B := Lib.hid (B.out.step' hb)
          clear hb hr HC2
          (try go_wp2_with fail)
          refine hK.out _ _ ?_ (fun hHeld2 => ?_)
          · (try dsimp only); exact ⟨P1.out, P2.out⟩
          clear hK K hHeld
          have hHeld := hHeld2
          clear hHeld2
          (try simp only [Act.put, List.setIfInBounds_toArray, List.set_cons_zero, List.set_cons_succ])
          refine wpAnyH_take (i := 5) (v := ?_) (take_at rfl) (by kernel_rfl) (by kernel_rfl) (by kernel_rfl) (fun _ _ _ h => h) (Or.inl ⟨by rfl, ?_⟩) (by assumption) ?_
          rotate_left
          · intro w' hSw; (try dsimp only at hSw); go_simp; (try with_reducible rfl)
          (try simp only [Act.put, List.setIfInBounds_toArray, List.set_cons_zero, List.set_cons_succ])
          refine wpAnyH_take (i := 6) (v := ?_) (take_at rfl) (by kernel_rfl) (by kernel_rfl) (by kernel_rfl) (fun _ _ _ h => h) (Or.inl ⟨by rfl, ?_⟩) (by assumption) ?_
          rotate_left
          · intro w' hSw; (try dsimp only at hSw); go_simp; (try with_reducible rfl)
          (try simp only [Act.put, List.setIfInBounds_toArray, List.set_cons_zero, List.set_cons_succ])
          refine wpAnyH_take (i := 7) (v := ?_) (take_at rfl) (by kernel_rfl) (by kernel_rfl) (by kernel_rfl) (fun _ _ _ h => h) (Or.inl ⟨by rfl, ?_⟩) (by assumption) ?_
          rotate_left
          · intro w' hSw; (try dsimp only at hSw); go_simp; (try with_reducible rfl)
          (try simp only [Act.put, List.setIfInBounds_toArray, List.set_cons_zero, List.set_cons_succ])
          refine wpAnyH_ready (rs := [9]) (by kernel_rfl) (by simp) ?_
          refine AllReadyH.cons (take_at rfl) (fun K hK => ?_) AllReadyH.nil
          refine wp_store_row 37 _ _ rfl g9 (marr mb M52) rfl rfl 37 _ Q9.out (by rw [sizeM]; rfl) rfl (marr_all _ _) ?_
          have Q8 := Lib.hid (Blk.row Q9.out (marr mb M52))
          have P8 := Lib.hid (Blk.row_far P1.out (by have := P1L.out; omega : gm ≠ g9) (marr mb M52))
          have V8 := Lib.hid (Blk.row_far P2.out (by have := P2L.out; omega : gd ≠ g9) (marr mb M52))
          have RM8 : Hid (MR (y7.setRow g9 (marr mb M52)) mb M52) := RM.out.row_move Q9.out (by have := P1L.out; omega) (marr mb M52)
          have B8 := Lib.hid (below_row B.out hg9 (marr mb M52))
          clear Q9 P1 P2 RM B
          have Q9 := Q8
          have P1 := P8
          have P2 := V8
          have RM := RM8
          have B := B8
          clear Q8 P8 V8 RM8 B8
          generalize y7.setRow g9 (marr mb M52) = y8 at *
          refine hK.out _ _ ?_ (fun hHeld2 => ?_)
          · (try dsimp only); exact ⟨P1.out, P2.out⟩
          clear hK K hHeld
          have hHeld := hHeld2
          clear hHeld2
          (try simp only [Act.put, List.setIfInBounds_toArray, List.set_cons_zero, List.set_cons_succ])
          refine wpAnyH_take (i := 10) (v := ?_) (take_at rfl) (by kernel_rfl) (by kernel_rfl) (by kernel_rfl) (fun _ _ _ h => h) (Or.inl ⟨by rfl, ?_⟩) (by assumption) ?_
          rotate_left
          · intro w' hSw; (try dsimp only at hSw); go_simp; (try with_reducible rfl)
          (try simp only [Act.put, List.setIfInBounds_toArray, List.set_cons_zero, List.set_cons_succ])
          refine wpAnyH_done (by kernel_rfl) ?_ _
          refine NoPanic.normal ?_
          go_wp2_with fail
          go_meet
          exact ⟨g9, mb, rfl, rfl, Q9.out, RM.out, P1.out, B.out⟩
      · go_simp
        have hg9 : w6.heap.size ≤ y1.heap.size := B.out.size
        have Q9 : Hid (Blk (y1.alloc (Obj.cells (marr MA.zero Mv.zero) 37)) y1.heap.size 37 (marr MA.zero Mv.zero)) := Blk.new_at rfl
        replace P1 := Lib.hid (P1.out.alloc (Obj.cells (marr MA.zero Mv.zero) 37))
        replace P2 := Lib.hid (P2.out.alloc (Obj.cells (marr MA.zero Mv.zero) 37))
        replace P3 := Lib.hid (P3.out.alloc (Obj.cells (marr MA.zero Mv.zero) 37))
        replace RP := Lib.hid (RP.out.alloc (Obj.cells (marr MA.zero Mv.zero) 37))
        replace B := Lib.hid (B.out.alloc B.out.size (Obj.cells (marr MA.zero Mv.zero) 37))
        change K _ (y1.alloc (Obj.cells (marr MA.zero Mv.zero) 37))
        generalize y1.alloc (Obj.cells (marr MA.zero Mv.zero) 37) = y9 at *
        generalize y1.heap.size = g9 at *
        refine hK.out _ _ ?_ (fun hHeld2 => ?_)
        · (try dsimp only); exact ⟨P1.out, P2.out⟩
        clear hK K hHeld
        have hHeld := hHeld2
        clear hHeld2
        (try simp only [Act.put, List.setIfInBounds_toArray, List.set_cons_zero, List.set_cons_succ])
        refine wpAnyH_ready (rs := [3]) (by kernel_rfl) (by simp) ?_
        refine AllReadyH.cons (take_at rfl) (fun K hK => ?_) AllReadyH.nil
        go_simp
        have GS : Hid (Blk (y9.alloc (Obj.cells (cD gf).arr 46)) y9.heap.size 46 (cD gf).arr) := Blk.new_at rfl
        replace P1 := Lib.hid (P1.out.alloc (Obj.cells (cD gf).arr 46))
        replace P2 := Lib.hid (P2.out.alloc (Obj.cells (cD gf).arr 46))
        replace P3 := Lib.hid (P3.out.alloc (Obj.cells (cD gf).arr 46))
        replace RP := Lib.hid (RP.out.alloc (Obj.cells (cD gf).arr 46))
        replace Q9 := Lib.hid (Q9.out.alloc (Obj.cells (cD gf).arr 46))
        replace B := Lib.hid (B.out.alloc B.out.size (Obj.cells (cD gf).arr 46))
        change K _ (y9.alloc (Obj.cells (cD gf).arr 46))
        generalize y9.alloc (Obj.cells (cD gf).arr 46) = y10 at *
        generalize y9.heap.size = g3 at *
        refine hK.out _ _ ?_ (fun hHeld2 => ?_)
        · (try dsimp only); exact ⟨P1.out, P2.out⟩
        clear hK K hHeld
        have hHeld := hHeld2
        clear hHeld2
        (try simp only [Act.put, List.setIfInBounds_toArray, List.set_cons_zero, List.set_cons_succ])
        refine wpAnyH_ready (rs := [4]) (by kernel_rfl) (by simp) ?_
        refine AllReadyH.cons (take_at rfl) (fun K hK => ?_) AllReadyH.nil
        go_simp
        have HC := mgcopy_any M51 R51 a9 [(cD gf, vId)] (some ⟨g3, 0, none⟩) 1 1 y10 (HT.out.step (Z6.out.step' B.out)) RP.out (by decide) (sl_one GS.out (rw_id P3.out)) (by omega) (by show 1 ≤ reach; decide) rfl rfl rfl
        rw [show copyL R51 M51.sp M51.lo M51.hi ([(cD gf, vId)].map Prod.snd) = [putW ⟨#[99]⟩ vId] from copyL_id] at HC
        have HC2 := Lib.hid HC
        clear HC
        refine HC2.out.mono ?_
        rintro e3 y11 ⟨mb, rfl, hr, hb⟩
        replace P1 := Lib.hid (P1.out.step hb)
        replace P2 := Lib.hid (P2.out.step hb)
        replace P3 := Lib.hid (P3.out.step hb)
        replace RP := Lib.hid (RP.out.step hb)
        replace Q9 := Lib.hid (Q9.out.step hb)
        replace GS := Lib.hid (GS.out.step hb)
        have RM := Lib.hid hr
        replace B := Lib.hid (B.out.step' hb)
        clear hb hr HC2
        (try go_wp2_with fail)
        refine hK.out _ _ ?_ (fun hHeld2 => ?_)
        · (try dsimp only); exact ⟨P1.out, P2.out⟩
        clear hK K hHeld
        have hHeld := hHeld2
        clear hHeld2
        (try simp only [Act.put, List.setIfInBounds_toArray, List.set_cons_zero, List.set_cons_succ])
        refine wpAnyH_take (i := 5) (v := ?_) (take_at rfl) (by kernel_rfl) (by kernel_rfl) (by kernel_rfl) (fun _ _ _ h => h) (Or.inl ⟨by rfl, ?_⟩) (by assumption) ?_
        rotate_left
        · intro w' hSw; (try dsimp only at hSw); go_simp; (try with_reducible rfl)
        (try simp only [Act.put, List.setIfInBounds_toArray, List.set_cons_zero, List.set_cons_succ])
        refine wpAnyH_take (i := 6) (v := ?_) (take_at rfl) (by kernel_rfl) (by kernel_rfl) (by kernel_rfl) (fun _ _ _ h => h) (Or.inl ⟨by rfl, ?_⟩) (by assumption) ?_
        rotate_left
        · intro w' hSw; (try dsimp only at hSw); go_simp; (try with_reducible rfl)
        (try simp only [Act.put, List.setIfInBounds_toArray, List.set_cons_zero, List.set_cons_succ])
        refine wpAnyH_take (i := 7) (v := ?_) (take_at rfl) (by kernel_rfl) (by kernel_rfl) (by kernel_rfl) (fun _ _ _ h => h) (Or.inl ⟨by rfl, ?_⟩) (by assumption) ?_
        rotate_left
        · intro w' hSw; (try dsimp only at hSw); go_simp; (try with_reducible rfl)
        (try simp only [Act.put, List.setIfInBounds_toArray, List.set_cons_zero, List.set_cons_succ])
        refine wpAnyH_ready (rs := [9]) (by kernel_rfl) (by simp) ?_
        refine AllReadyH.cons (take_at rfl) (fun K hK => ?_) AllReadyH.nil
        refine wp_store_row 37 _ _ rfl g9 (marr mb M52) rfl rfl 37 _ Q9.out (by rw [sizeM]; rfl) rfl (marr_all _ _) ?_
        have Q8 := Lib.hid (Blk.row Q9.out (marr mb M52))
        have P8 := Lib.hid (Blk.row_far P1.out (by have := P1L.out; omega : gm ≠ g9) (marr mb M52))
        have V8 := Lib.hid (Blk.row_far P2.out (by have := P2L.out; omega : gd ≠ g9) (marr mb M52))
        have RM8 : Hid (MR (y11.setRow g9 (marr mb M52)) mb M52) := RM.out.row_move Q9.out (by have := P1L.out; omega) (marr mb M52)
        have B8 := Lib.hid (below_row B.out hg9 (marr mb M52))
        clear Q9 P1 P2 RM B
        have Q9 := Q8
        have P1 := P8
        have P2 := V8
        have RM := RM8
        have B := B8
        clear Q8 P8 V8 RM8 B8
        generalize y11.setRow g9 (marr mb M52) = y12 at *
        refine hK.out _ _ ?_ (fun hHeld2 => ?_)
        · (try dsimp only); exact ⟨P1.out, P2.out⟩
        clear hK K hHeld
        have hHeld := hHeld2
        clear hHeld2
        (try simp only [Act.put, List.setIfInBounds_toArray, List.set_cons_zero, List.set_cons_succ])
        refine wpAnyH_take (i := 10) (v := ?_) (take_at rfl) (by kernel_rfl) (by kernel_rfl) (by kernel_rfl) (fun _ _ _ h => h) (Or.inl ⟨by rfl, ?_⟩) (by assumption) ?_
        rotate_left
        · intro w' hSw; (try dsimp only at hSw); go_simp; (try with_reducible rfl)
        (try simp only [Act.put, List.setIfInBounds_toArray, List.set_cons_zero, List.set_cons_succ])
        refine wpAnyH_done (by kernel_rfl) ?_ _
        refine NoPanic.normal ?_
        go_wp2_with fail
        go_meet
        exact ⟨g9, mb, rfl, rfl, Q9.out, RM.out, P1.out, B.out⟩
    · go_simp
      have GS : Hid (Blk (v0.alloc (Obj.cells (cD gf).arr 46)) v0.heap.size 46 (cD gf).arr) := Blk.new_at rfl
      replace P1 := Lib.hid (P1.out.alloc (Obj.cells (cD gf).arr 46))
      replace P2 := Lib.hid (P2.out.alloc (Obj.cells (cD gf).arr 46))
      replace P3 := Lib.hid (P3.out.alloc (Obj.cells (cD gf).arr 46))
      replace B := Lib.hid (B.out.alloc B.out.size (Obj.cells (cD gf).arr 46))
      change K _ (v0.alloc (Obj.cells (cD gf).arr 46))
      generalize v0.alloc (Obj.cells (cD gf).arr 46) = y13 at *
      generalize v0.heap.size = g3 at *
      refine hK.out _ _ ?_ (fun hHeld2 => ?_)
      · (try dsimp only); exact ⟨P1.out, P2.out⟩
      clear hK K hHeld
      have hHeld := hHeld2
      clear hHeld2
      (try simp only [Act.put, List.setIfInBounds_toArray, List.set_cons_zero, List.set_cons_succ])
      refine wpAnyH_ready (rs := [1, 8]) (by kernel_rfl) (by simp) ?_
      refine AllReadyH.cons (take_at rfl) (fun K hK => ?_) (AllReadyH.cons (take_at rfl) (fun K hK => ?_) AllReadyH.nil)
      · go_simp
        refine (plain_any y13).mono ?_
        rintro e3 y14 ⟨a9, rfl, hr, hb⟩
        replace P1 := Lib.hid (P1.out.step hb)
        replace P2 := Lib.hid (P2.out.step hb)
        replace P3 := Lib.hid (P3.out.step hb)
        replace GS := Lib.hid (GS.out.step hb)
        have RP := Lib.hid hr
        replace B := Lib.hid (B.out.step' hb)
        clear hb hr
        (try go_wp2_with fail)
        refine hK.out _ _ ?_ (fun hHeld2 => ?_)
        · (try dsimp only); exact ⟨P1.out, P2.out⟩
        clear hK K hHeld
        have hHeld := hHeld2
        clear hHeld2
        (try simp only [Act.put, List.setIfInBounds_toArray, List.set_cons_zero, List.set_cons_succ])
        refine wpAnyH_ready (rs := [4, 8]) (by kernel_rfl) (by simp) ?_
        refine AllReadyH.cons (take_at rfl) (fun K hK => ?_) (AllReadyH.cons (take_at rfl) (fun K hK => ?_) AllReadyH.nil)
        · go_simp
          have HC := mgcopy_any M51 R51 a9 [(cD gf, vId)] (some ⟨g3, 0, none⟩) 1 1 y14 (HT.out.step (Z6.out.step' B.out)) RP.out (by decide) (sl_one GS.out (rw_id P3.out)) (by omega) (by show 1 ≤ reach; decide) rfl rfl rfl
          rw [show copyL R51 M51.sp M51.lo M51.hi ([(cD gf, vId)].map Prod.snd) = [putW ⟨#[99]⟩ vId] from copyL_id] at HC
          have HC2 := Lib.hid HC
          clear HC
          refine HC2.out.mono ?_
          rintro e3 y15 ⟨mb, rfl, hr, hb⟩
          replace P1 := Lib.hid (P1.out.step hb)
          replace P2 := Lib.hid (P2.out.step hb)
          replace P3 := Lib.hid (P3.out.step hb)
          replace GS := Lib.hid (GS.out.step hb)
          replace RP := Lib.hid (RP.out.step hb)
          have RM := Lib.hid hr
          replace B := Lib.hid (B.out.step' hb)
          clear hb hr HC2
          (try go_wp2_with fail)
          refine hK.out _ _ ?_ (fun hHeld2 => ?_)
          · (try dsimp only); exact ⟨P1.out, P2.out⟩
          clear hK K hHeld
          have hHeld := hHeld2
          clear hHeld2
          (try simp only [Act.put, List.setIfInBounds_toArray, List.set_cons_zero, List.set_cons_succ])
          refine wpAnyH_take (i := 5) (v := ?_) (take_at rfl) (by kernel_rfl) (by kernel_rfl) (by kernel_rfl) (fun _ _ _ h => h) (Or.inl ⟨by rfl, ?_⟩) (by assumption) ?_
          rotate_left
          · intro w' hSw; (try dsimp only at hSw); go_simp; (try with_reducible rfl)
          (try simp only [Act.put, List.setIfInBounds_toArray, List.set_cons_zero, List.set_cons_succ])
          refine wpAnyH_take (i := 6) (v := ?_) (take_at rfl) (by kernel_rfl) (by kernel_rfl) (by kernel_rfl) (fun _ _ _ h => h) (Or.inl ⟨by rfl, ?_⟩) (by assumption) ?_
          rotate_left
          · intro w' hSw; (try dsimp only at hSw); go_simp; (try with_reducible rfl)
          (try simp only [Act.put, List.setIfInBounds_toArray, List.set_cons_zero, List.set_cons_succ])
          refine wpAnyH_take (i := 7) (v := ?_) (take_at rfl) (by kernel_rfl) (by kernel_rfl) (by kernel_rfl) (fun _ _ _ h => h) (Or.inl ⟨by rfl, ?_⟩) (by assumption) ?_
          rotate_left
          · intro w' hSw; (try dsimp only at hSw); go_simp; (try with_reducible rfl)
          (try simp only [Act.put, List.setIfInBounds_toArray, List.set_cons_zero, List.set_cons_succ])
          refine wpAnyH_ready (rs := [8]) (by kernel_rfl) (by simp) ?_
          refine AllReadyH.cons (take_at rfl) (fun K hK => ?_) AllReadyH.nil
          go_simp
          have hg9 : w6.heap.size ≤ y15.heap.size := B.out.size
          have Q9 : Hid (Blk (y15.alloc (Obj.cells (marr MA.zero Mv.zero) 37)) y15.heap.size 37 (marr MA.zero Mv.zero)) := Blk.new_at rfl
          replace P1 := Lib.hid (P1.out.alloc (Obj.cells (marr MA.zero Mv.zero) 37))
          replace P2 := Lib.hid (P2.out.alloc (Obj.cells (marr MA.zero Mv.zero) 37))
          replace P3 := Lib.hid (P3.out.alloc (Obj.cells (marr MA.zero Mv.zero) 37))
          replace GS := Lib.hid (GS.out.alloc (Obj.cells (marr MA.zero Mv.zero) 37))
          replace RP := Lib.hid (RP.out.alloc (Obj.cells (marr MA.zero Mv.zero) 37))
          replace RM := Lib.hid (RM.out.alloc (Obj.cells (marr MA.zero Mv.zero) 37))
          replace B := Lib.hid (B.out.alloc B.out.size (Obj.cells (marr MA.zero Mv.zero) 37))
          change K _ (y15.alloc (Obj.cells (marr MA.zero Mv.zero) 37))
          generalize y15.alloc (Obj.cells (marr MA.zero Mv.zero) 37) = y16 at *
          generalize y15.heap.size = g9 at *
          refine hK.out _ _ ?_ (fun hHeld2 => ?_)
          · (try dsimp only); exact ⟨P1.out, P2.out⟩
          clear hK K hHeld
          have hHeld := hHeld2
          clear hHeld2
          (try simp only [Act.put, List.setIfInBounds_toArray, List.set_cons_zero, List.set_cons_succ])
          refine wpAnyH_ready (rs := [9]) (by kernel_rfl) (by simp) ?_
          refine AllReadyH.cons (take_at rfl) (fun K hK => ?_) AllReadyH.nil
          refine wp_store_row 37 _ _ rfl g9 (marr mb M52) rfl rfl 37 _ Q9.out (by rw [sizeM]; rfl) rfl (marr_all _ _) ?_
          have Q8 := Lib.hid (Blk.row Q9.out (marr mb M52))
          have P8 := Lib.hid (Blk.row_far P1.out (by have := P1L.out; omega : gm ≠ g9) (marr mb M52))
          have V8 := Lib.hid (Blk.row_far P2.out (by have := P2L.out; omega : gd ≠ g9) (marr mb M52))
          have RM8 : Hid (MR (y16.setRow g9 (marr mb M52)) mb M52) := RM.out.row_move Q9.out (by have := P1L.out; omega) (marr mb M52)
          have B8 := Lib.hid (below_row B.out hg9 (marr mb M52))
          clear Q9 P1 P2 RM B
          have Q9 := Q8
          have P1 := P8
          have P2 := V8
          have RM := RM8
          have B := B8
          clear Q8 P8 V8 RM8 B8
          generalize y16.setRow g9 (marr mb M52) = y17 at *
          refine hK.out _ _ ?_ (fun hHeld2 => ?_)
          · (try dsimp only); exact ⟨P1.out, P2.out⟩
          clear hK K hHeld
          have hHeld := hHeld2
          clear hHeld2
          (try simp only [Act.put, List.setIfInBounds_toArray, List.set_cons_zero, List.set_cons_succ])
          refine wpAnyH_take (i := 10) (v := ?_) (take_at rfl) (by kernel_rfl) (by kernel_rfl) (by kernel_rfl) (fun _ _ _ h => h) (Or.inl ⟨by rfl, ?_⟩) (by assumption) ?_
          rotate_left
          · intro w' hSw; (try dsimp only at hSw); go_simp; (try with_reducible rfl)
          (try simp only [Act.put, List.setIfInBounds_toArray, List.set_cons_zero, List.set_cons_succ])
          refine wpAnyH_done (by kernel_rfl) ?_ _
          refine NoPanic.normal ?_
          go_wp2_with fail
          go_meet
          exact ⟨g9, mb, rfl, rfl, Q9.out, RM.out, P1.out, B.out⟩
        · go_simp
          have hg9 : w6.heap.size ≤ y14.heap.size := B.out.size
          have Q9 : Hid (Blk (y14.alloc (Obj.cells (marr MA.zero Mv.zero) 37)) y14.heap.size 37 (marr MA.zero Mv.zero)) := Blk.new_at rfl
          replace P1 := Lib.hid (P1.out.alloc (Obj.cells (marr MA.zero Mv.zero) 37))
          replace P2 := Lib.hid (P2.out.alloc (Obj.cells (marr MA.zero Mv.zero) 37))
          replace P3 := Lib.hid (P3.out.alloc (Obj.cells (marr MA.zero Mv.zero) 37))
          replace GS := Lib.hid (GS.out.alloc (Obj.cells (marr MA.zero Mv.zero) 37))
          replace RP := Lib.hid (RP.out.alloc (Obj.cells (marr MA.zero Mv.zero) 37))
          replace B := Lib.hid (B.out.alloc B.out.size (Obj.cells (marr MA.zero Mv.zero) 37))
          change K _ (y14.alloc (Obj.cells (marr MA.zero Mv.zero) 37))
          generalize y14.alloc (Obj.cells (marr MA.zero Mv.zero) 37) = y18 at *
          generalize y14.heap.size = g9 at *
          refine hK.out _ _ ?_ (fun hHeld2 => ?_)
          · (try dsimp only); exact ⟨P1.out, P2.out⟩
          clear hK K hHeld
          have hHeld := hHeld2
          clear hHeld2
          (try simp only [Act.put, List.setIfInBounds_toArray, List.set_cons_zero, List.set_cons_succ])
          refine wpAnyH_ready (rs := [4]) (by kernel_rfl) (by simp) ?_
          refine AllReadyH.cons (take_at rfl) (fun K hK => ?_) AllReadyH.nil
          go_simp
          have HC := mgcopy_any M51 R51 a9 [(cD gf, vId)] (some ⟨g3, 0, none⟩) 1 1 y18 (HT.out.step (Z6.out.step' B.out)) RP.out (by decide) (sl_one GS.out (rw_id P3.out)) (by omega) (by show 1 ≤ reach; decide) rfl rfl rfl
          rw [show copyL R51 M51.sp M51.lo M51.hi ([(cD gf, vId)].map Prod.snd) = [putW ⟨#[99]⟩ vId] from copyL_id] at HC
          have HC2 := Lib.hid HC
          clear HC
          refine HC2.out.mono ?_
          rintro e3 y19 ⟨mb, rfl, hr, hb⟩
          replace P1 := Lib.hid (P1.out.step hb)
          replace P2 := Lib.hid (P2.out.step hb)
          replace P3 := Lib.hid (P3.out.step hb)
          replace GS := Lib.hid (GS.out.step hb)
          replace RP := Lib.hid (RP.out.step hb)
          replace Q9 := Lib.hid (Q9.out.step hb)
          have RM := Lib.hid hr
          replace B := Lib.hid (B.out.step' hb)
          clear hb hr HC2
          (try go_wp2_with fail)
          refine hK.out _ _ ?_ (fun hHeld2 => ?_)
          · (try dsimp only); exact ⟨P1.out, P2.out⟩
          clear hK K hHeld
          have hHeld := hHeld2
          clear hHeld2
          (try simp only [Act.put, List.setIfInBounds_toArray, List.set_cons_zero, List.set_cons_succ])
          refine wpAnyH_take (i := 5) (v := ?_) (take_at rfl) (by kernel_rfl) (by kernel_rfl) (by kernel_rfl) (fun _ _ _ h => h) (Or.inl ⟨by rfl, ?_⟩) (by assumption) ?_
          rotate_left
          · intro w' hSw; (try dsimp only at hSw); go_simp; (try with_reducible rfl)
          (try simp only [Act.put, List.setIfInBounds_toArray, List.set_cons_zero, List.set_cons_succ])
          refine wpAnyH_take (i := 6) (v := ?_) (take_at rfl) (by kernel_rfl) (by kernel_rfl) (by kernel_rfl) (fun _ _ _ h => h) (Or.inl ⟨by rfl, ?_⟩) (by assumption) ?_
          rotate_left
          · intro w' hSw; (try dsimp only at hSw); go_simp; (try with_reducible rfl)
          (try simp only [Act.put, List.setIfInBounds_toArray, List.set_cons_zero, List.set_cons_succ])
          refine wpAnyH_take (i := 7) (v := ?_) (take_at rfl) (by kernel_rfl) (by kernel_rfl) (by kernel_rfl) (fun _ _ _ h => h) (Or.inl ⟨by rfl, ?_⟩) (by assumption) ?_
          rotate_left
          · intro w' hSw; (try dsimp only at hSw); go_simp; (try with_reducible rfl)
          (try simp only [Act.put, List.setIfInBounds_toArray, List.set_cons_zero, List.set_cons_succ])
          refine wpAnyH_ready (rs := [9]) (by kernel_rfl) (by simp) ?_
          refine AllReadyH.cons (take_at rfl) (fun K hK => ?_) AllReadyH.nil
          refine wp_store_row 37 _ _ rfl g9 (marr mb M52) rfl rfl 37 _ Q9.out (by rw [sizeM]; rfl) rfl (marr_all _ _) ?_
          have Q8 := Lib.hid (Blk.row Q9.out (marr mb M52))
          have P8 := Lib.hid (Blk.row_far P1.out (by have := P1L.out; omega : gm ≠ g9) (marr mb M52))
          have V8 := Lib.hid (Blk.row_far P2.out (by have := P2L.out; omega : gd ≠ g9) (marr mb M52))
          have RM8 : Hid (MR (y19.setRow g9 (marr mb M52)) mb M52) := RM.out.row_move Q9.out (by have := P1L.out; omega) (marr mb M52)
          have B8 := Lib.hid (below_row B.out hg9 (marr mb M52))
          clear Q9 P1 P2 RM B
          have Q9 := Q8
          have P1 := P8
          have P2 := V8
          have RM := RM8
          have B := B8
          clear Q8 P8 V8 RM8 B8
          generalize y19.setRow g9 (marr mb M52) = y20 at *
          refine hK.out _ _ ?_ (fun hHeld2 => ?_)
          · (try dsimp only); exact ⟨P1.out, P2.out⟩
          clear hK K hHeld
          have hHeld := hHeld2
          clear hHeld2
          (try simp only [Act.put, List.setIfInBounds_toArray, List.set_cons_zero, List.set_cons_succ])
          refine wpAnyH_take (i := 10) (v := ?_) (take_at rfl) (by kernel_rfl) (by kernel_rfl) (by kernel_rfl) (fun _ _ _ h => h) (Or.inl ⟨by rfl, ?_⟩) (by assumption) ?_
          rotate_left
          · intro w' hSw; (try dsimp only at hSw); go_simp; (try with_reducible rfl)
          (try simp only [Act.put, List.setIfInBounds_toArray, List.set_cons_zero, List.set_cons_succ])
          refine wpAnyH_done (by kernel_rfl) ?_ _
          refine NoPanic.normal ?_
          go_wp2_with fail
          go_meet
          exact ⟨g9, mb, rfl, rfl, Q9.out, RM.out, P1.out, B.out⟩
      · go_simp
        have hg9 : w6.heap.size ≤ y13.heap.size := B.out.size
        have Q9 : Hid (Blk (y13.alloc (Obj.cells (marr MA.zero Mv.zero) 37)) y13.heap.size 37 (marr MA.zero Mv.zero)) := Blk.new_at rfl
        replace P1 := Lib.hid (P1.out.alloc (Obj.cells (marr MA.zero Mv.zero) 37))
        replace P2 := Lib.hid (P2.out.alloc (Obj.cells (marr MA.zero Mv.zero) 37))
        replace P3 := Lib.hid (P3.out.alloc (Obj.cells (marr MA.zero Mv.zero) 37))
        replace GS := Lib.hid (GS.out.alloc (Obj.cells (marr MA.zero Mv.zero) 37))
        replace B := Lib.hid (B.out.alloc B.out.size (Obj.cells (marr MA.zero Mv.zero) 37))
        change K _ (y13.alloc (Obj.cells (marr MA.zero Mv.zero) 37))
        generalize y13.alloc (Obj.cells (marr MA.zero Mv.zero) 37) = y21 at *
        generalize y13.heap.size = g9 at *
        refine hK.out _ _ ?_ (fun hHeld2 => ?_)
        · (try dsimp only); exact ⟨P1.out, P2.out⟩
        clear hK K hHeld
        have hHeld := hHeld2
        clear hHeld2
        (try simp only [Act.put, List.setIfInBounds_toArray, List.set_cons_zero, List.set_cons_succ])
        refine wpAnyH_ready (rs := [1]) (by kernel_rfl) (by simp) ?_
        refine AllReadyH.cons (take_at rfl) (fun K hK => ?_) AllReadyH.nil
        go_simp
        refine (plain_any y21).mono ?_
        rintro e3 y22 ⟨a9, rfl, hr, hb⟩
        replace P1 := Lib.hid (P1.out.step hb)
        replace P2 := Lib.hid (P2.out.step hb)
        replace P3 := Lib.hid (P3.out.step hb)
        replace GS := Lib.hid (GS.out.step hb)
        replace Q9 := Lib.hid (Q9.out.step hb)
        have RP := Lib.hid hr
        replace B := Lib.hid (B.out.step' hb)
        clear hb hr
        (try go_wp2_with fail)
        refine hK.out _ _ ?_ (fun hHeld2 => ?_)
        · (try dsimp only); exact ⟨P1.out, P2.out⟩
        clear hK K hHeld
        have hHeld := hHeld2
        clear hHeld2
        (try simp only [Act.put, List.setIfInBounds_toArray, List.set_cons_zero, List.set_cons_succ])
        refine wpAnyH_ready (rs := [4]) (by kernel_rfl) (by simp) ?_
        refine AllReadyH.cons (take_at rfl) (fun K hK => ?_) AllReadyH.nil
        go_simp
        have HC := mgcopy_any M51 R51 a9 [(cD gf, vId)] (some ⟨g3, 0, none⟩) 1 1 y22 (HT.out.step (Z6.out.step' B.out)) RP.out (by decide) (sl_one GS.out (rw_id P3.out)) (by omega) (by show 1 ≤ reach; decide) rfl rfl rfl
        rw [show copyL R51 M51.sp M51.lo M51.hi ([(cD gf, vId)].map Prod.snd) = [putW ⟨#[99]⟩ vId] from copyL_id] at HC
        have HC2 := Lib.hid HC
        clear HC
        refine HC2.out.mono ?_
        rintro e3 y23 ⟨mb, rfl, hr, hb⟩
        replace P1 := Lib.hid (P1.out.step hb)
        replace P2 := Lib.hid (P2.out.step hb)
        replace P3 := Lib.hid (P3.out.step hb)
        replace GS := Lib.hid (GS.out.step hb)
        replace Q9 := Lib.hid (Q9.out.step hb)
        replace RP := Lib.hid (RP.out.step hb)
        have RM := Lib.hid hr
        replace B := Lib.hid (B.out.step' hb)
        clear hb hr HC2
        (try go_wp2_with fail)
        refine hK.out _ _ ?_ (fun hHeld2 => ?_)
        · (try dsimp only); exact ⟨P1.out, P2.out⟩
        clear hK K hHeld
        have hHeld := hHeld2
        clear hHeld2
        (try simp only [Act.put, List.setIfInBounds_toArray, List.set_cons_zero, List.set_cons_succ])
        refine wpAnyH_take (i := 5) (v := ?_) (take_at rfl) (by kernel_rfl) (by kernel_rfl) (by kernel_rfl) (fun _ _ _ h => h) (Or.inl ⟨by rfl, ?_⟩) (by assumption) ?_
        rotate_left
        · intro w' hSw; (try dsimp only at hSw); go_simp; (try with_reducible rfl)
        (try simp only [Act.put, List.setIfInBounds_toArray, List.set_cons_zero, List.set_cons_succ])
        refine wpAnyH_take (i := 6) (v := ?_) (take_at rfl) (by kernel_rfl) (by kernel_rfl) (by kernel_rfl) (fun _ _ _ h => h) (Or.inl ⟨by rfl, ?_⟩) (by assumption) ?_
        rotate_left
        · intro w' hSw; (try dsimp only at hSw); go_simp; (try with_reducible rfl)
        (try simp only [Act.put, List.setIfInBounds_toArray, List.set_cons_zero, List.set_cons_succ])
        refine wpAnyH_take (i := 7) (v := ?_) (take_at rfl) (by kernel_rfl) (by kernel_rfl) (by kernel_rfl) (fun _ _ _ h => h) (Or.inl ⟨by rfl, ?_⟩) (by assumption) ?_
        rotate_left
        · intro w' hSw; (try dsimp only at hSw); go_simp; (try with_reducible rfl)
        (try simp only [Act.put, List.setIfInBounds_toArray, List.set_cons_zero, List.set_cons_succ])
        refine wpAnyH_ready (rs := [9]) (by kernel_rfl) (by simp) ?_
        refine AllReadyH.cons (take_at rfl) (fun K hK => ?_) AllReadyH.nil
        refine wp_store_row 37 _ _ rfl g9 (marr mb M52) rfl rfl 37 _ Q9.out (by rw [sizeM]; rfl) rfl (marr_all _ _) ?_
        have Q8 := Lib.hid (Blk.row Q9.out (marr mb M52))
        have P8 := Lib.hid (Blk.row_far P1.out (by have := P1L.out; omega : gm ≠ g9) (marr mb M52))
        have V8 := Lib.hid (Blk.row_far P2.out (by have := P2L.out; omega : gd ≠ g9) (marr mb M52))
        have RM8 : Hid (MR (y23.setRow g9 (marr mb M52)) mb M52) := RM.out.row_move Q9.out (by have := P1L.out; omega) (marr mb M52)
        have B8 := Lib.hid (below_row B.out hg9 (marr mb M52))
        clear Q9 P1 P2 RM B
        have Q9 := Q8
        have P1 := P8
        have P2 := V8
        have RM := RM8
        have B := B8
        clear Q8 P8 V8 RM8 B8
        generalize y23.setRow g9 (marr mb M52) = y24 at *
        refine hK.out _ _ ?_ (fun hHeld2 => ?_)
        · (try dsimp only); exact ⟨P1.out, P2.out⟩
        clear hK K hHeld
        have hHeld := hHeld2
        clear hHeld2
        (try simp only [Act.put, List.setIfInBounds_toArray, List.set_cons_zero, List.set_cons_succ])
        refine wpAnyH_take (i := 10) (v := ?_) (take_at rfl) (by kernel_rfl) (by kernel_rfl) (by kernel_rfl) (fun _ _ _ h => h) (Or.inl ⟨by rfl, ?_⟩) (by assumption) ?_
        rotate_left
        · intro w' hSw; (try dsimp only at hSw); go_simp; (try with_reducible rfl)
        (try simp only [Act.put, List.setIfInBounds_toArray, List.set_cons_zero, List.set_cons_succ])
        refine wpAnyH_done (by kernel_rfl) ?_ _
        refine NoPanic.normal ?_
        go_wp2_with fail
        go_meet
        exact ⟨g9, mb, rfl, rfl, Q9.out, RM.out, P1.out, B.out⟩
    · go_simp
      have hg9 : w6.heap.size ≤ v0.heap.size := B.out.size
      have Q9 : Hid (Blk (v0.alloc (Obj.cells (marr MA.zero Mv.zero) 37)) v0.heap.size 37 (marr MA.zero Mv.zero)) := Blk.new_at rfl
      replace P1 := Lib.hid (P1.out.alloc (Obj.cells (marr MA.zero Mv.zero) 37))
      replace P2 := Lib.hid (P2.out.alloc (Obj.cells (marr MA.zero Mv.zero) 37))
      replace P3 := Lib.hid (P3.out.alloc (Obj.cells (marr MA.zero Mv.zero) 37))
      replace B := Lib.hid (B.out.alloc B.out.size (Obj.cells (marr MA.zero Mv.zero) 37))
      change K _ (v0.alloc (Obj.cells (marr MA.zero Mv.zero) 37))
      generalize v0.alloc (Obj.cells (marr MA.zero Mv.zero) 37) = y25 at *
      generalize v0.heap.size = g9 at *
      refine hK.out _ _ ?_ (fun hHeld2 => ?_)
      · (try dsimp only); exact ⟨P1.out, P2.out⟩
      clear hK K hHeld
      have hHeld := hHeld2
      clear hHeld2
      (try simp only [Act.put, List.setIfInBounds_toArray, List.set_cons_zero, List.set_cons_succ])
      refine wpAnyH_ready (rs := [1, 3]) (by kernel_rfl) (by simp) ?_
      refine AllReadyH.cons (take_at rfl) (fun K hK => ?_) (AllReadyH.cons (take_at rfl) (fun K hK => ?_) AllReadyH.nil)
      · go_simp
        refine (plain_any y25).mono ?_
        rintro e3 y26 ⟨a9, rfl, hr, hb⟩
        replace P1 := Lib.hid (P1.out.step hb)
        replace P2 := Lib.hid (P2.out.step hb)
        replace P3 := Lib.hid (P3.out.step hb)
        replace Q9 := Lib.hid (Q9.out.step hb)
        have RP := Lib.hid hr
        replace B := Lib.hid (B.out.step' hb)
        clear hb hr
        (try go_wp2_with fail)
        refine hK.out _ _ ?_ (fun hHeld2 => ?_)
        · (try dsimp only); exact ⟨P1.out, P2.out⟩
        clear hK K hHeld
        have hHeld := hHeld2
        clear hHeld2
        (try simp only [Act.put, List.setIfInBounds_toArray, List.set_cons_zero, List.set_cons_succ])
        refine wpAnyH_ready (rs := [3]) (by kernel_rfl) (by simp) ?_
        refine AllReadyH.cons (take_at rfl) (fun K hK => ?_) AllReadyH.nil
        go_simp
        have GS : Hid (Blk (y26.alloc (Obj.cells (cD gf).arr 46)) y26.heap.size 46 (cD gf).arr) := Blk.new_at rfl
        replace P1 := Lib.hid (P1.out.alloc (Obj.cells (cD gf).arr 46))
        replace P2 := Lib.hid (P2.out.alloc (Obj.cells (cD gf).arr 46))
        replace P3 := Lib.hid (P3.out.alloc (Obj.cells (cD gf).arr 46))
        replace Q9 := Lib.hid (Q9.out.alloc (Obj.cells (cD gf).arr 46))
        replace RP := Lib.hid (RP.out.alloc (Obj.cells (cD gf).arr 46))
        replace B := Lib.hid (B.out.alloc B.out.size (Obj.cells (cD gf).arr 46))
        change K _ (y26.alloc (Obj.cells (cD gf).arr 46))
        generalize y26.alloc (Obj.cells (cD gf).arr 46) = y27 at *
        generalize y26.heap.size = g3 at *
        refine hK.out _ _ ?_ (fun hHeld2 => ?_)
        · (try dsimp only); exact ⟨P1.out, P2.out⟩
        clear hK K hHeld
        have hHeld := hHeld2
        clear hHeld2
        (try simp only [Act.put, List.setIfInBounds_toArray, List.set_cons_zero, List.set_cons_succ])
        refine wpAnyH_ready (rs := [4]) (by kernel_rfl) (by simp) ?_
        refine AllReadyH.cons (take_at rfl) (fun K hK => ?_) AllReadyH.nil
        go_simp
        have HC := mgcopy_any M51 R51 a9 [(cD gf, vId)] (some ⟨g3, 0, none⟩) 1 1 y27 (HT.out.step (Z6.out.step' B.out)) RP.out (by decide) (sl_one GS.out (rw_id P3.out)) (by omega) (by show 1 ≤ reach; decide) rfl rfl rfl
        rw [show copyL R51 M51.sp M51.lo M51.hi ([(cD gf, vId)].map Prod.snd) = [putW ⟨#[99]⟩ vId] from copyL_id] at HC
        have HC2 := Lib.hid HC
        clear HC
        refine HC2.out.mono ?_
        rintro e3 y28 ⟨mb, rfl, hr, hb⟩
        replace P1 := Lib.hid (P1.out.step hb)
        replace P2 := Lib.hid (P2.out.step hb)
        replace P3 := Lib.hid (P3.out.step hb)
        replace Q9 := Lib.hid (Q9.out.step hb)
        replace RP := Lib.hid (RP.out.step hb)
        replace GS := Lib.hid (GS.out.step hb)
        have RM := Lib.hid hr
        replace B := Lib.hid (B.out.step' hb)
        clear hb hr HC2
        (try go_wp2_with fail)
        refine hK.out _ _ ?_ (fun hHeld2 => ?_)
        · (try dsimp only); exact ⟨P1.out, P2.out⟩
        clear hK K hHeld
        have hHeld := hHeld2
        clear hHeld2
        (try simp only [Act.put, List.setIfInBounds_toArray, List.set_cons_zero, List.set_cons_succ])
        refine wpAnyH_take (i := 5) (v := ?_) (take_at rfl) (by kernel_rfl) (by kernel_rfl) (by kernel_rfl) (fun _ _ _ h => h) (Or.inl ⟨by rfl, ?_⟩) (by assumption) ?_
        rotate_left
        · intro w' hSw; (try dsimp only at hSw); go_simp; (try with_reducible rfl)
        (try simp only [Act.put, List.setIfInBounds_toArray, List.set_cons_zero, List.set_cons_succ])
        refine wpAnyH_take (i := 6) (v := ?_) (take_at rfl) (by kernel_rfl) (by kernel_rfl) (by kernel_rfl) (fun _ _ _ h => h) (Or.inl ⟨by rfl, ?_⟩) (by assumption) ?_
        rotate_left
        · intro w' hSw; (try dsimp only at hSw); go_simp; (try with_reducible rfl)
        (try simp only [Act.put, List.setIfInBounds_toArray, List.set_cons_zero, List.set_cons_succ])
        refine wpAnyH_take (i := 7) (v := ?_) (take_at rfl) (by kernel_rfl) (by kernel_rfl) (by kernel_rfl) (fun _ _ _ h => h) (Or.inl ⟨by rfl, ?_⟩) (by assumption) ?_
        rotate_left
        · intro w' hSw; (try dsimp only at hSw); go_simp; (try with_reducible rfl)
        (try simp only [Act.put, List.setIfInBounds_toArray, List.set_cons_zero, List.set_cons_succ])
        refine wpAnyH_ready (rs := [9]) (by kernel_rfl) (by simp) ?_
        refine AllReadyH.cons (take_at rfl) (fun K hK => ?_) AllReadyH.nil
        refine wp_store_row 37 _ _ rfl g9 (marr mb M52) rfl rfl 37 _ Q9.out (by rw [sizeM]; rfl) rfl (marr_all _ _) ?_
        have Q8 := Lib.hid (Blk.row Q9.out (marr mb M52))
        have P8 := Lib.hid (Blk.row_far P1.out (by have := P1L.out; omega : gm ≠ g9) (marr mb M52))
        have V8 := Lib.hid (Blk.row_far P2.out (by have := P2L.out; omega : gd ≠ g9) (marr mb M52))
        have RM8 : Hid (MR (y28.setRow g9 (marr mb M52)) mb M52) := RM.out.row_move Q9.out (by have := P1L.out; omega) (marr mb M52)
        have B8 := Lib.hid (below_row B.out hg9 (marr mb M52))
        clear Q9 P1 P2 RM B
        have Q9 := Q8
        have P1 := P8
        have P2 := V8
        have RM := RM8
        have B := B8
        clear Q8 P8 V8 RM8 B8
        generalize y28.setRow g9 (marr mb M52) = y29 at *
        refine hK.out _ _ ?_ (fun hHeld2 => ?_)
        · (try dsimp only); exact ⟨P1.out, P2.out⟩
        clear hK K hHeld
        have hHeld := hHeld2
        clear hHeld2
        (try simp only [Act.put, List.setIfInBounds_toArray, List.set_cons_zero, List.set_cons_succ])
        refine wpAnyH_take (i := 10) (v := ?_) (take_at rfl) (by kernel_rfl) (by kernel_rfl) (by kernel_rfl) (fun _ _ _ h => h) (Or.inl ⟨by rfl, ?_⟩) (by assumption) ?_
        rotate_left
        · intro w' hSw; (try dsimp only at hSw); go_simp; (try with_reducible rfl)
        (try simp only [Act.put, List.setIfInBounds_toArray, List.set_cons_zero, List.set_cons_succ])
        refine wpAnyH_done (by kernel_rfl) ?_ _
        refine NoPanic.normal ?_
        go_wp2_with fail
        go_meet
        exact ⟨g9, mb, rfl, rfl, Q9.out, RM.out, P1.out, B.out⟩
      · go_simp
        have GS : Hid (Blk (y25.alloc (Obj.cells (cD gf).arr 46)) y25.heap.size 46 (cD gf).arr) := Blk.new_at rfl
        replace P1 := Lib.hid (P1.out.alloc (Obj.cells (cD gf).arr 46))
        replace P2 := Lib.hid (P2.out.alloc (Obj.cells (cD gf).arr 46))
        replace P3 := Lib.hid (P3.out.alloc (Obj.cells (cD gf).arr 46))
        replace Q9 := Lib.hid (Q9.out.alloc (Obj.cells (cD gf).arr 46))
        replace B := Lib.hid (B.out.alloc B.out.size (Obj.cells (cD gf).arr 46))
        change K _ (y25.alloc (Obj.cells (cD gf).arr 46))
        generalize y25.alloc (Obj.cells (cD gf).arr 46) = y30 at *
        generalize y25.heap.size = g3 at *
        refine hK.out _ _ ?_ (fun hHeld2 => ?_)
        · (try dsimp only); exact ⟨P1.out, P2.out⟩
        clear hK K hHeld
        have hHeld := hHeld2
        clear hHeld2
        (try simp only [Act.put, List.setIfInBounds_toArray, List.set_cons_zero, List.set_cons_succ])
        refine wpAnyH_ready (rs := [1]) (by kernel_rfl) (by simp) ?_
        refine AllReadyH.cons (take_at rfl) (fun K hK => ?_) AllReadyH.nil
        go_simp
        refine (plain_any y30).mono ?_
        rintro e3 y31 ⟨a9, rfl, hr, hb⟩
        replace P1 := Lib.hid (P1.out.step hb)
        replace P2 := Lib.hid (P2.out.step hb)
        replace P3 := Lib.hid (P3.out.step hb)
        replace Q9 := Lib.hid (Q9.out.step hb)
        replace GS := Lib.hid (GS.out.step hb)
        have RP := Lib.hid hr
        replace B := Lib.hid (B.out.step' hb)
        clear hb hr
        (try go_wp2_with fail)
        refine hK.out _ _ ?_ (fun hHeld2 => ?_)
        · (try dsimp only); exact ⟨P1.out, P2.out⟩
        clear hK K hHeld
        have hHeld := hHeld2
        clear hHeld2
        (try simp only [Act.put, List.setIfInBounds_toArray, List.set_cons_zero, List.set_cons_succ])
        refine wpAnyH_ready (rs := [4]) (by kernel_rfl) (by simp) ?_
        refine AllReadyH.cons (take_at rfl) (fun K hK => ?_) AllReadyH.nil
        go_simp
        have HC := mgcopy_any M51 R51 a9 [(cD gf, vId)] (some ⟨g3, 0, none⟩) 1 1 y31 (HT.out.step (Z6.out.step' B.out)) RP.out (by decide) (sl_one GS.out (rw_id P3.out)) (by omega) (by show 1 ≤ reach; decide) rfl rfl rfl
        rw [show copyL R51 M51.sp M51.lo M51.hi ([(cD gf, vId)].map Prod.snd) = [putW ⟨#[99]⟩ vId] from copyL_id] at HC
        have HC2 := Lib.hid HC
        clear HC
        refine HC2.out.mono ?_
        rintro e3 y32 ⟨mb, rfl, hr, hb⟩
        replace P1 := Lib.hid (P1.out.step hb)
        replace P2 := Lib.hid (P2.out.step hb)
        replace P3 := Lib.hid (P3.out.step hb)
        replace Q9 := Lib.hid (Q9.out.step hb)
        replace GS := Lib.hid (GS.out.step hb)
        replace RP := Lib.hid (RP.out.step hb)
        have RM := Lib.hid hr
        replace B := Lib.hid (B.out.step' hb)
        clear hb hr HC2
        (try go_wp2_with fail)
        refine hK.out _ _ ?_ (fun hHeld2 => ?_)
        · (try dsimp only); exact ⟨P1.out, P2.out⟩
        clear hK K hHeld
        have hHeld := hHeld2
        clear hHeld2
        (try simp only [Act.put, List.setIfInBounds_toArray, List.set_cons_zero, List.set_cons_succ])
        refine wpAnyH_take (i := 5) (v := ?_) (take_at rfl) (by kernel_rfl) (by kernel_rfl) (by kernel_rfl) (fun _ _ _ h => h) (Or.inl ⟨by rfl, ?_⟩) (by assumption) ?_
        rotate_left
        · intro w' hSw; (try dsimp only at hSw); go_simp; (try with_reducible rfl)
        (try simp only [Act.put, List.setIfInBounds_toArray, List.set_cons_zero, List.set_cons_succ])
        refine wpAnyH_take (i := 6) (v := ?_) (take_at rfl) (by kernel_rfl) (by kernel_rfl) (by kernel_rfl) (fun _ _ _ h => h) (Or.inl ⟨by rfl, ?_⟩) (by assumption) ?_
        rotate_left
        · intro w' hSw; (try dsimp only at hSw); go_simp; (try with_reducible rfl)
        (try simp only [Act.put, List.setIfInBounds_toArray, List.set_cons_zero, List.set_cons_succ])
        refine wpAnyH_take (i := 7) (v := ?_) (take_at rfl) (by kernel_rfl) (by kernel_rfl) (by kernel_rfl) (fun _ _ _ h => h) (Or.inl ⟨by rfl, ?_⟩) (by assumption) ?_
        rotate_left
        · intro w' hSw; (try dsimp only at hSw); go_simp; (try with_reducible rfl)
        (try simp only [Act.put, List.setIfInBounds_toArray, List.set_cons_zero, List.set_cons_succ])
        refine wpAnyH_ready (rs := [9]) (by kernel_rfl) (by simp) ?_
        refine AllReadyH.cons (take_at rfl) (fun K hK => ?_) AllReadyH.nil
        refine wp_store_row 37 _ _ rfl g9 (marr mb M52) rfl rfl 37 _ Q9.out (by rw [sizeM]; rfl) rfl (marr_all _ _) ?_
        have Q8 := Lib.hid (Blk.row Q9.out (marr mb M52))
        have P8 := Lib.hid (Blk.row_far P1.out (by have := P1L.out; omega : gm ≠ g9) (marr mb M52))
        have V8 := Lib.hid (Blk.row_far P2.out (by have := P2L.out; omega : gd ≠ g9) (marr mb M52))
        have RM8 : Hid (MR (y32.setRow g9 (marr mb M52)) mb M52) := RM.out.row_move Q9.out (by have := P1L.out; omega) (marr mb M52)
        have B8 := Lib.hid (below_row B.out hg9 (marr mb M52))
        clear Q9 P1 P2 RM B
        have Q9 := Q8
        have P1 := P8
        have P2 := V8
        have RM := RM8
        have B := B8
        clear Q8 P8 V8 RM8 B8
        generalize y32.setRow g9 (marr mb M52) = y33 at *
        refine hK.out _ _ ?_ (fun hHeld2 => ?_)
        · (try dsimp only); exact ⟨P1.out, P2.out⟩
        clear hK K hHeld
        have hHeld := hHeld2
        clear hHeld2
        (try simp only [Act.put, List.setIfInBounds_toArray, List.set_cons_zero, List.set_cons_succ])
        refine wpAnyH_take (i := 10) (v := ?_) (take_at rfl) (by kernel_rfl) (by kernel_rfl) (by kernel_rfl) (fun _ _ _ h => h) (Or.inl ⟨by rfl, ?_⟩) (by assumption) ?_
        rotate_left
        · intro w' hSw; (try dsimp only at hSw); go_simp; (try with_reducible rfl)
        (try simp only [Act.put, List.setIfInBounds_toArray, List.set_cons_zero, List.set_cons_succ])
        refine wpAnyH_done (by kernel_rfl) ?_ _
        refine NoPanic.normal ?_
        go_wp2_with fail
        go_meet
        exact ⟨g9, mb, rfl, rfl, Q9.out, RM.out, P1.out, B.out⟩
  case rest =>
    obtain ⟨g9, mb, rfl, rfl, hq, hm, hp, hb⟩ := hcut
    have Q9 := Lib.hid hq
    have RM := Lib.hid hm
    clear P1
    have P1 := Lib.hid hp
    have ZC := Lib.hid (Z6.out.step' hb)
    clear hq hm hp hb Z6 P2 P3 P1L P2L
    generalize wc = w7 at *
    have HL := Lib.hid (load_any M52 mb w7 RM.out rfl (by decide) (by decide))
    go_wp2_with (refine wpList_load_row rfl 37 _ rfl g9 rfl _ _ _ _ Q9.out Tryz.underlying37 rfl (by rw [sizeM]; rfl) ?_)
    refine HL.out.mono ?_
    rintro e w8 ⟨LA, ln, lc, ls, rfl, hls, hws, hb⟩
    have hl1 : ls.length = 1 := by
      have := congrArg List.length hls
      simpa using this
    obtain ⟨⟨wc1, wt1⟩, rfl⟩ : ∃ p, ls = [p] := List.length_eq_one_iff.1 hl1
    have hwt : wt1 = putW ⟨#[99]⟩ vId := by simpa using hls
    subst hwt
    obtain rfl : ln = 1 := hws.sr.ln
    obtain ⟨bl, ol, rfl, _, hel⟩ := hws.sr.el (by omega)
    have hrw := hws.el _ (List.mem_singleton.2 rfl)
    have e0 := hel 0 _ rfl 0 _ rfl
    have e77 := hel 0 (wc1, putW ⟨#[99]⟩ vId) rfl 77 (.bool wc1.si) rfl
    have hk1 : wc1.kd = 2 := hrw.kd
    have hs1 : wc1.si = true := hrw.si
    rw [hk1] at e0
    rw [hs1] at e77
    simp only [Nat.zero_mul, Nat.add_zero] at e0 e77
    have E0 := Lib.hid e0
    have E77 := Lib.hid e77
    have ZD := Lib.hid (ZC.out.step' hb)
    replace P1 := Lib.hid (P1.out.step hb)
    replace Q9 := Lib.hid (Q9.out.step hb)
    clear hls hws hb hel hrw hk1 hs1 e0 e77 hl1 ZC HL RM
    go_upto_region 6 with fail
    have MZ : Hid (Below w8.heap.size w8 (w8.alloc (Obj.cells (marr MA.zero ⟨⟨#[99]⟩, ByteArray.empty, ByteArray.empty, 0, 1, 2, [], []⟩) 37))) := Lib.hid ((Below.refl _ _).alloc (Nat.le_refl _) _)
    change Code.wp _ _ _ _ (w8.alloc (Obj.cells (marr MA.zero ⟨⟨#[99]⟩, ByteArray.empty, ByteArray.empty, 0, 1, 2, [], []⟩) 37))
    generalize w8.alloc (Obj.cells (marr MA.zero ⟨⟨#[99]⟩, ByteArray.empty, ByteArray.empty, 0, 1, 2, [], []⟩) 37) = w9 at *
    have c0 : w9.cell? ⟨bl, ol, none⟩ = some (.int .i64 2) := (MZ.out.cell (World.block_lt_of_cell? w8 _ E0.out)).trans E0.out
    have c77 : w9.cell? ⟨bl, ol + 77, none⟩ = some (.bool true) := (MZ.out.cell (World.block_lt_of_cell? w8 _ E77.out)).trans E77.out
    replace P1 := Lib.hid (P1.out.step MZ.out)
    replace Q9 := Lib.hid (Q9.out.step MZ.out)
    have m3 : w9.cell? ⟨gm, 3, none⟩ = some (.int .i64 0) := P1.out.cell 3
    have m4 : w9.cell? ⟨gm, 4, none⟩ = some (.int .i64 1) := P1.out.cell 4
    have m5 : w9.cell? ⟨gm, 5, none⟩ = some (.int .i64 1) := P1.out.cell 5
    have n5 : w9.cell? ⟨g9, 5, none⟩ = some (.int .i64 2) := Q9.out.cell 5
    have ZE := Lib.hid (ZD.out.step' MZ.out)
    clear E0 E77 MZ ZD P1 Q9
    go_wp2_with fail
    go_ret
    exact ⟨rfl, ZE.out⟩

end Go.Proofs.YtlmmgjgkmbmgpaaGreatDoor


