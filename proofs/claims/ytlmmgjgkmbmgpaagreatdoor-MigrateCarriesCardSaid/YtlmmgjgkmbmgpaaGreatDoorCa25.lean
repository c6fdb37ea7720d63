/- Parts of the proof, joined: MgAwake, ChValid, ChRefValid. -/
import Derived.Test.YtlmmgjgkmbmgpaaGreatDoorCa24
import Derived.Test.YtlmmgjgkmbmgpaaGreatDoorCa20
import Derived.Test.YtlmmgjgkmbmgpaaGreatDoorCa19
import Derived.Test.YtlmmgjgkmbmgpaaGreatDoorCa15
import Derived.Test.YtlmmgjgkmbmgpaaGreatDoorCa16
import Derived.Test.YtlmmgjgkmbmgpaaGreatDoorCa4
import Derived.Test.YtlmmgjgkmbmgpaaGreatDoorCa6
/- The first check of the layer migrate. Printed by gen_mgawake.py. -/
namespace Go.Proofs.YtlmmgjgkmbmgpaaGreatDoor
open Go.RowKit
set_option linter.unusedSimpArgs false

def vId : Val := .mk 5 0 ByteArray.empty [] [.mk idB (vI 1)]
theorem sound_id : SoundV nameB vId := (SoundV_iff _ _).2 ⟨⟨.inr (.inr (.inr rfl)), .inr (.inr (.inr rfl)), .inr rfl, .inl rfl, by simp [vId, Val.k]⟩, by simp [vId, Val.l], by intro f hf; simp [vId, Val.d] at hf; subst hf; exact sound_i 1, by
    refine ⟨fun f hf => ?_, by simp [vId, Val.d]⟩
    simp [vId, Val.d] at hf
    subst hf
    show nameB idB = true
    kernel_rfl⟩
theorem valid_id : validV vId = true := by
  have h1 : vId.size = 2 := by simp [vId, vI, Val.size, sizeD, sizeF]
  have h2 : vId.height = 2 := by simp [vId, vI, Val.height, heightD, heightF]
  unfold validV
  rw [decide_eq_true (by omega), decide_eq_true (by omega), soundB_true sound_id]
  rfl
theorem at_id : keyAt vId [ka] = some nullV := by
  refine keyAt_none (by show (5 : Int) ≠ 6; decide) ?_
  have h : (getV vId ka).isNone = true := by kernel_rfl
  exact Option.isNone_iff_eq_none.1 h
theorem vals_id : valsR ks1 vId = some [nullV] := by
  rw [valsR_yes rfl valid_id, ks1, valsAt, at_id]
  rfl
theorem keyR_null : keyR [nullV] = (strOfNums (encAll [nullV]), 0) := keyR_yes (by unfold allowsB; simp [allow_valid valid_null])
theorem enc_id : encR ks1 false vId = (strOfNums (encAll [nullV]), 0) := by rw [encR_some vals_id, hashes_no, keyR_null]
abbrev R51 : Ro := ⟨⟨#[99]⟩, ks1, false, 1, 1, [⟨ByteArray.empty, ByteArray.empty, 0, 1, false⟩]⟩
theorem ins_id : insD R51 ByteArray.empty ByteArray.empty vId = true := by
  rw [insD_yes (K1 := strOfNums (encAll [nullV])) enc_id, inB_open]
  · rw [show ByteArray.empty.toList = [] by kernel_rfl]
    generalize (strOfNums (encAll [nullV])).toList = l
    cases l <;> rfl
  · kernel_rfl
abbrev M51 : Mv := ⟨⟨#[99]⟩, ByteArray.empty, ByteArray.empty, 0, 1, 1, [], []⟩
noncomputable abbrev M52 : Mv := ⟨⟨#[99]⟩, ByteArray.empty, ByteArray.empty, 0, 1, 2, [putW ⟨#[99]⟩ vId], []⟩
theorem start_1 : startR R51 ByteArray.empty 1 = (M51, 0) := by kernel_rfl
theorem start_0 : startR R51 ByteArray.empty 0 = (Mv.zero, 23) := by kernel_rfl
theorem copyL_id : copyL R51 ⟨#[99]⟩ ByteArray.empty ByteArray.empty [vId] = [putW ⟨#[99]⟩ vId] := by
  unfold copyL
  rw [List.filter_cons, ins_id]
  rfl
theorem rw_id {w : World} {g : Nat} (h : Blk w g 98 #[.string idB, .int .i64 3, .int .i64 1, .string ByteArray.empty, .slice none 0 0, .slice none 0 0]) : RW w (cD g) vId := by
  refine RVs.shut ⟨rfl, rfl, rfl, by show 0 ≤ reach; decide, rfl, Nat.le_refl _, by show 0 * 80 ≤ reach; decide, fun h => absurd h (by show ¬ (0 < 0); omega), rfl, Nat.le_refl _, by show 1 * 96 ≤ reach; decide, fun _ => ⟨g, 0, rfl, Ft.top, fun i f hi => ?_⟩⟩
  cases i with
  | zero =>
    simp [vId, Val.d] at hi
    subst hi
    exact ⟨h.cell 0, by show 3 ≤ reach; decide, cI 1, ⟨h.cell 1, h.cell 2, h.cell 3, h.cell 4, h.cell 5⟩, rw_i 1 w⟩
  | succ i => simp [vId, Val.d] at hi
theorem cs_one {w : World} {g : Nat} {c : Ch} (h : Blk w g 80 (recC c).toArray) : CS w (some ⟨g, 0, none⟩) 1 1 [c] := by
  refine ⟨⟨rfl, Nat.le_refl _, fun _ => ⟨g, 0, rfl, h.lt, fun i a hi j v hj => ?_⟩⟩, by show 1 * 56 ≤ reach; decide⟩
  cases i with
  | zero =>
    simp at hi
    subst hi
    simp only [Nat.zero_mul, Nat.zero_add]
    rw [h.cell, List.getElem?_toArray]
    exact hj
  | succ i => simp at hi
/-- the routes of the first check -/
def PlOk (w : World) (e : Ending) (w' : World) : Prop := ∃ a : RA, e = .returned (rval a R51) ∧ RR w' a R51 ∧ Below w.heap.size w w'
set_option maxRecDepth 100000 in
set_option maxHeartbeats 1000000 in
theorem plain_any (w : World) : Calls Tryz.prog 37 #[] w (PlOk w) := by
  obtain ⟨W2, hW⟩ : ∃ W2, (((w.alloc (Obj.cells (rarr ⟨some ⟨w.heap.size + 1 + 1, 0, none⟩, 1, 1, some ⟨w.heap.size + 1 + 1 + 1, 0, none⟩, 1, 1⟩ R51) 27)).alloc (Obj.cells #[.string ka] 9)).alloc (Obj.cells #[.slice (some ⟨w.heap.size + 1, 0, none⟩) 1 1, .bool false] 130)).alloc (Obj.cells (recC ⟨ByteArray.empty, ByteArray.empty, 0, 1, false⟩).toArray 80) = W2 := ⟨_, rfl⟩
  have hR : Hid (Blk W2 w.heap.size 27 (rarr ⟨some ⟨w.heap.size + 1 + 1, 0, none⟩, 1, 1, some ⟨w.heap.size + 1 + 1 + 1, 0, none⟩, 1, 1⟩ R51)) := by rw [← hW]; exact (((Blk.new_at rfl).alloc _).alloc _).alloc _
  have hS : Hid (Blk W2 (w.heap.size + 1) 9 #[.string ka]) := by rw [← hW]; exact ((Blk.new_at (by simp)).alloc _).alloc _
  have hO : Hid (Blk W2 (w.heap.size + 1 + 1) 130 #[.slice (some ⟨w.heap.size + 1, 0, none⟩) 1 1, .bool false]) := by rw [← hW]; exact (Blk.new_at (by simp)).alloc _
  have hC : Hid (Blk W2 (w.heap.size + 1 + 1 + 1) 80 (recC ⟨ByteArray.empty, ByteArray.empty, 0, 1, false⟩).toArray) := by rw [← hW]; exact Blk.new_at (by simp)
  have hE : Hid (Below w.heap.size w W2) := by rw [← hW]; exact ((((Below.refl _ _).alloc (Nat.le_refl _) _).alloc (by simp) _).alloc (by simp; omega) _).alloc (by simp; omega) _
  have HW := Lib.hid hW
  clear hW
  go_enter Tryz.func37, Tryz.ntmps37
  go_wp2_with fail
  change bodyPost _ _ _ _ _ ((((w.alloc (Obj.cells (rarr ⟨some ⟨w.heap.size + 1 + 1, 0, none⟩, 1, 1, some ⟨w.heap.size + 1 + 1 + 1, 0, none⟩, 1, 1⟩ R51) 27)).alloc (Obj.cells #[.string ka] 9)).alloc (Obj.cells #[.slice (some ⟨w.heap.size + 1, 0, none⟩) 1 1, .bool false] 130)).alloc (Obj.cells (recC ⟨ByteArray.empty, ByteArray.empty, 0, 1, false⟩).toArray 80))
  rw [HW.out]
  exact bodyPost_ret (results_ro rfl _ w.heap.size rfl W2 ⟨some ⟨w.heap.size + 1 + 1, 0, none⟩, 1, 1, some ⟨w.heap.size + 1 + 1 + 1, 0, none⟩, 1, 1⟩ R51 hR.out) rfl
    ⟨⟨some ⟨w.heap.size + 1 + 1, 0, none⟩, 1, 1, some ⟨w.heap.size + 1 + 1 + 1, 0, none⟩, 1, 1⟩, rfl, ⟨by show 1 ≤ reach; decide, ks_ka hS.out hO.out, cs_one hC.out⟩, hE.out⟩

set_option maxRecDepth 100000 in
set_option maxHeartbeats 8000000 in
theorem awake51_any (w : World) (hT : Tabs w) : Calls Tryz.prog 9 #[] w fun e w' => e = .returned (.bool true) ∧ Below w.heap.size w w' := by
  have HT := Lib.hid hT
  clear hT
  have Z := Lib.hid (Below.refl w.heap.size w)
  go_enter Tryz.func9, Tryz.ntmps9
  go_wp2_with fail
  refine (plain_any _).mono ?_
  rintro e w1 ⟨a1, rfl, hr, hb⟩
  have HS := start_any R51 a1 ByteArray.empty 1 w1 hr
  rw [start_1] at HS
  have HS1 := Lib.hid HS
  have Z1 := Lib.hid (Z.out.step' hb)
  clear hb hr Z HS
  go_wp2_with fail
  refine HS1.out.mono ?_
  rintro e w2 ⟨rfl, hb⟩
  have Z2 := Lib.hid (Z1.out.step' hb)
  clear hb HS1 Z1
  go_upto_region 2 with fail
  change Code.wp _ _ _ _ (w2.alloc (Obj.cells (marr MA.zero M51) 37))
  have P1 : Hid (Blk (w2.alloc (Obj.cells (marr MA.zero M51) 37)) w2.heap.size 37 (marr MA.zero M51)) := Blk.new_at rfl
  have Z3 := Lib.hid (Z2.out.alloc Z2.out.size (Obj.cells (marr MA.zero M51) 37))
  clear Z2
  generalize w2.alloc (Obj.cells (marr MA.zero M51) 37) = w3 at *
  generalize w2.heap.size = gm at *
  go_wp2_with fail
  refine (plain_any _).mono ?_
  rintro e w4 ⟨a2, rfl, hr, hb⟩
  have HS := start_any R51 a2 ByteArray.empty 0 w4 hr
  rw [start_0] at HS
  have HS1 := Lib.hid HS
  have Z4 := Lib.hid (Z3.out.step' hb)
  replace P1 := Lib.hid (P1.out.step hb)
  clear hb hr Z3 HS
  go_wp2_with fail
  refine HS1.out.mono ?_
  rintro e w5 ⟨rfl, hb⟩
  have Z5 := Lib.hid (Z4.out.step' hb)
  replace P1 := Lib.hid (P1.out.step hb)
  clear hb HS1 Z4
  go_upto_region 3 with fail
  change Code.wp _ _ _ _ (w5.alloc (Obj.cells (marr MA.zero Mv.zero) 37))
  have Z6 := Lib.hid (Z5.out.alloc Z5.out.size (Obj.cells (marr MA.zero Mv.zero) 37))
  replace P1 := Lib.hid (P1.out.alloc (Obj.cells (marr MA.zero Mv.zero) 37))
  clear Z5
  generalize w5.alloc (Obj.cells (marr MA.zero Mv.zero) 37) = w5b at *
  generalize w5.heap.size = gz at *
  go_wp2_with fail
  refine (rint01_any 1 _).mono ?_
  rintro e w5c ⟨rfl, hb⟩
  have Z7 := Lib.hid (Z6.out.step' hb)
  replace P1 := Lib.hid (P1.out.step hb)
  clear hb Z6
  go_upto_region 4 with fail
  obtain ⟨w6, hW⟩ : ∃ w6, (w5c.alloc (Obj.cells #[.string idB, .int .i64 3, .int .i64 1, .string ByteArray.empty, .slice none 0 0, .slice none 0 0] 98)).alloc (Obj.cells (cD w5c.heap.size).arr 46) = w6 := ⟨_, rfl⟩
  have P2 : Hid (Blk w6 (w5c.heap.size + 1) 46 (cD w5c.heap.size).arr) := by rw [← hW]; exact Blk.new_at (by simp)
  have P3 : Hid (Blk w6 w5c.heap.size 98 #[.string idB, .int .i64 3, .int .i64 1, .string ByteArray.empty, .slice none 0 0, .slice none 0 0]) := by rw [← hW]; exact (Blk.new_at rfl).alloc _
  have hb6 : Below w5c.heap.size w5c w6 := by rw [← hW]; exact ((Below.refl _ _).alloc (Nat.le_refl _) _).alloc (by simp) _
  replace P1 := Lib.hid (P1.out.step hb6)
  have Z6 := Lib.hid (Z7.out.step' hb6)
  change Code.wp _ _ _ _ ((w5c.alloc (Obj.cells #[.string idB, .int .i64 3, .int .i64 1, .string ByteArray.empty, .slice none 0 0, .slice none 0 0] 98)).alloc (Obj.cells (cD w5c.heap.size).arr 46))
  rw [hW]
  have P1L := Lib.hid P1.out.lt
  have P2L := Lib.hid P2.out.lt
  clear hW hb6 Z7
  generalize w5c.heap.size + 1 = gd at *
  generalize w5c.heap.size = gf at *
  go_cut [6, 7] (fun v6 v7 wx => ∃ (g9 : Nat) (mb : MA), v6 = .pointer (some ⟨g9, 0, none⟩) ∧ v7 = .int .i64 0 ∧ Blk wx g9 37 (marr mb M52) ∧ MR wx mb M52 ∧ Blk wx gm 37 (marr MA.zero M51) ∧ Below w6.heap.size w6 wx)
  case first =>
    refine wp_region_noPanic ?_
    refine wp_region_held_drew (S := (fun w' => Blk w' gm 37 (marr MA.zero M51) ∧ Blk w' gd 46 (cD gf).arr)) (by kernel_rfl) ?_ (fun hHeld => ?_)
    · (try dsimp only); exact ⟨P1.out, P2.out⟩
    have B : Hid (Below w6.heap.size w6 w6.drew) := Lib.hid ((Below.refl w6.heap.size w6).drew)
    replace P1 := Lib.hid P1.out.drew
    replace P2 := Lib.hid P2.out.drew
    replace P3 := Lib.hid P3.out.drew
    generalize w6.drew = v0 at *
    refine wpAnyH_take (i := 0) (v := .agg (marr MA.zero M51)) (take_at rfl) (by kernel_rfl) (by kernel_rfl) (by kernel_rfl) (fun _ _ _ h => h) (Or.inl ⟨by rfl, ?_⟩) (by assumption) ?_
    · intro w' hSw; exact exec_row rfl rfl hSw.1 Tryz.underlying37 rfl (by rw [sizeM]; rfl)
    (try simp only [Act.put, List.setIfInBounds_toArray, List.set_cons_zero, List.set_cons_succ])
    refine wpAnyH_take (i := 2) (v := .agg (cD gf).arr) (take_at rfl) (by kernel_rfl) (by kernel_rfl) (by kernel_rfl) (fun _ _ _ h => h) (Or.inl ⟨by rfl, ?_⟩) (by assumption) ?_
    · intro w' hSw; exact exec_row rfl rfl hSw.2 Tryz.underlying46 rfl (by rw [sizeV]; rfl)
    (try simp only [Act.put, List.setIfInBounds_toArray, List.set_cons_zero, List.set_cons_succ])
    refine wpAnyH_ready (rs := [1, 3, 8]) (by kernel_rfl) (by simp) ?_
    refine AllReadyH.cons (take_at rfl) (fun K hK => ?_) (AllReadyH.cons (take_at rfl) (fun K hK => ?_) (AllReadyH.cons (take_at rfl) (fun K hK => ?_) AllReadyH.nil))
    · go_simp
      refine (plain_any v0).mono ?_
      rintro e3 y1 ⟨a9, rfl, hr, hb⟩
      replace P1 := Lib.hid (P1.out.step hb)
      replace P2 := Lib.hid (P2.out.step hb)
      replace P3 := Lib.hid (P3.out.step hb)
      have RP := Lib.hid hr
      replace B := Lib.hid (B.out.step' hb)
      clear hb hr
      (try go_wp2_with fail)
      refine hK.out _ _ ?_ (fun hHeld2 => ?_)
      · (try dsimp only); exact ⟨P1.out, P2.out⟩
      clear hK K hHeld
      have hHeld := hHeld2
      clear hHeld2
      (try simp only [Act.put, List.setIfInBounds_toArray, List.set_cons_zero, List.set_cons_succ])
      refine wpAnyH_ready (rs := [3, 8]) (by kernel_rfl) (by simp) ?_
      refine AllReadyH.cons (take_at rfl) (fun K hK => ?_) (AllReadyH.cons (take_at rfl) (fun K hK => ?_) AllReadyH.nil)
      · go_simp
        have GS : Hid (Blk (y1.alloc (Obj.cells (cD gf).arr 46)) y1.heap.size 46 (cD gf).arr) := Blk.new_at rfl
        replace P1 := Lib.hid (P1.out.alloc (Obj.cells (cD gf).arr 46))
        replace P2 := Lib.hid (P2.out.alloc (Obj.cells (cD gf).arr 46))
        replace P3 := Lib.hid (P3.out.alloc (Obj.cells (cD gf).arr 46))
        replace RP := Lib.hid (RP.out.alloc (Obj.cells (cD gf).arr 46))
        replace B := Lib.hid (B.out.alloc B.out.size (Obj.cells (cD gf).arr 46))
        change K _ (y1.alloc (Obj.cells (cD gf).arr 46))
        generalize y1.alloc (Obj.cells (cD gf).arr 46) = y2 at *
        generalize y1.heap.size = g3 at *
        refine hK.out _ _ ?_ (fun hHeld2 => ?_)
        · (try dsimp only); exact ⟨P1.out, P2.out⟩
        clear hK K hHeld
        have hHeld := hHeld2
        clear hHeld2
        (try simp only [Act.put, List.setIfInBounds_toArray, List.set_cons_zero, List.set_cons_succ])
        refine wpAnyH_ready (rs := [4, 8]) (by kernel_rfl) (by simp) ?_
        refine AllReadyH.cons (take_at rfl) (fun K hK => ?_) (AllReadyH.cons (take_at rfl) (fun K hK => ?_) AllReadyH.nil)
        · go_simp
          have HC := mgcopy_any M51 R51 a9 [(cD gf, vId)] (some ⟨g3, 0, none⟩) 1 1 y2 (HT.out.step (Z6.out.step' B.out)) RP.out (by decide) (sl_one GS.out (rw_id P3.out)) (by omega) (by show 1 ≤ reach; decide) rfl rfl rfl
          rw [show copyL R51 M51.sp M51.lo M51.hi ([(cD gf, vId)].map Prod.snd) = [putW ⟨#[99]⟩ vId] from copyL_id] at HC
          have HC2 := Lib.hid HC
          clear HC
          refine HC2.out.mono ?_
          rintro e3 y3 ⟨mb, rfl, hr, hb⟩
          replace P1 := Lib.hid (P1.out.step hb)
          replace P2 := Lib.hid (P2.out.step hb)
          replace P3 := Lib.hid (P3.out.step hb)
          replace RP := Lib.hid (RP.out.step hb)
          replace GS := Lib.hid (GS.out.step hb)
          have RM := Lib.hid hr
          replace B := Lib.hid (B.out.step' hb)
          clear hb hr HC2
          (try go_wp2_with fail)
          refine hK.out _ _ ?_ (fun hHeld2 => ?_)
          · (try dsimp only); exact ⟨P1.out, P2.out⟩
          clear hK K hHeld
          have hHeld := hHeld2
          clear hHeld2
          (try simp only [Act.put, List.setIfInBounds_toArray, List.set_cons_zero, List.set_cons_succ])
          refine wpAnyH_take (i := 5) (v := ?_) (take_at rfl) (by kernel_rfl) (by kernel_rfl) (by kernel_rfl) (fun _ _ _ h => h) (Or.inl ⟨by rfl, ?_⟩) (by assumption) ?_
          rotate_left
          · intro w' hSw; (try dsimp only at hSw); go_simp; (try with_reducible rfl)
          (try simp only [Act.put, List.setIfInBounds_toArray, List.set_cons_zero, List.set_cons_succ])
          refine wpAnyH_take (i := 6) (v := ?_) (take_at rfl) (by kernel_rfl) (by kernel_rfl) (by kernel_rfl) (fun _ _ _ h => h) (Or.inl ⟨by rfl, ?_⟩) (by assumption) ?_
          rotate_left
          · intro w' hSw; (try dsimp only at hSw); go_simp; (try with_reducible rfl)
          (try simp only [Act.put, List.setIfInBounds_toArray, List.set_cons_zero, List.set_cons_succ])
          refine wpAnyH_take (i := 7) (v := ?_) (take_at rfl) (by kernel_rfl) (by kernel_rfl) (by kernel_rfl) (fun _ _ _ h => h) (Or.inl ⟨by rfl, ?_⟩) (by assumption) ?_
          rotate_left
          · intro w' hSw; (try dsimp only at hSw); go_simp; (try with_reducible rfl)
          (try simp only [Act.put, List.setIfInBounds_toArray, List.set_cons_zero, List.set_cons_succ])
          refine wpAnyH_ready (rs := [8]) (by kernel_rfl) (by simp) ?_
          refine AllReadyH.cons (take_at rfl) (fun K hK => ?_) AllReadyH.nil
          go_simp
          have hg9 : w6.heap.size ≤ y3.heap.size := B.out.size
          have Q9 : Hid (Blk (y3.alloc (Obj.cells (marr MA.zero Mv.zero) 37)) y3.heap.size 37 (marr MA.zero Mv.zero)) := Blk.new_at rfl
          replace P1 := Lib.hid (P1.out.alloc (Obj.cells (marr MA.zero Mv.zero) 37))
          replace P2 := Lib.hid (P2.out.alloc (Obj.cells (marr MA.zero Mv.zero) 37))
          replace P3 := Lib.hid (P3.out.alloc (Obj.cells (marr MA.zero Mv.zero) 37))
          replace RP := Lib.hid (RP.out.alloc (Obj.cells (marr MA.zero Mv.zero) 37))
          replace GS := Lib.hid (GS.out.alloc (Obj.cells (marr MA.zero Mv.zero) 37))
          replace RM := Lib.hid (RM.out.alloc (Obj.cells (marr MA.zero Mv.zero) 37))
          replace B := Lib.hid (B.out.alloc B.out.size (Obj.cells (marr MA.zero Mv.zero) 37))
          change K _ (y3.alloc (Obj.cells (marr MA.zero Mv.zero) 37))
          generalize y3.alloc (Obj.cells (marr MA.zero Mv.zero) 37) = y4 at *
          generalize y3.heap.size = g9 at *
          refine hK.out _ _ ?_ (fun hHeld2 => ?_)
          · (try dsimp only); exact ⟨P1.out, P2.out⟩
          clear hK K hHeld
          have hHeld := hHeld2
          clear hHeld2
          (try simp only [Act.put, List.setIfInBounds_toArray, List.set_cons_zero, List.set_cons_succ])
          refine wpAnyH_ready (rs := [9]) (by kernel_rfl) (by simp) ?_
          refine AllReadyH.cons (take_at rfl) (fun K hK => ?_) AllReadyH.nil
          refine wp_store_row 37 _ _ rfl g9 (marr mb M52) rfl rfl 37 _ Q9.out (by rw [sizeM]; rfl) rfl (marr_all _ _) ?_
          have Q8 := Lib.hid (Blk.row Q9.out (marr mb M52))
          have P8 := Lib.hid (Blk.row_far P1.out (by have := P1L.out; omega : gm ≠ g9) (marr mb M52))
          have V8 := Lib.hid (Blk.row_far P2.out (by have := P2L.out; omega : gd ≠ g9) (marr mb M52))
          have RM8 : Hid (MR (y4.setRow g9 (marr mb M52)) mb M52) := RM.out.row_move Q9.out (by have := P1L.out; omega) (marr mb M52)
          have B8 := Lib.hid (below_row B.out hg9 (marr mb M52))
          clear Q9 P1 P2 RM B
          have Q9 := Q8
          have P1 := P8
          have P2 := V8
          have RM := RM8
          have B := B8
          clear Q8 P8 V8 RM8 B8
          generalize y4.setRow g9 (marr mb M52) = y5 at *
          refine hK.out _ _ ?_ (fun hHeld2 => ?_)
          · (try dsimp only); exact ⟨P1.out, P2.out⟩
          clear hK K hHeld
          have hHeld := hHeld2
          clear hHeld2
          (try simp only [Act.put, List.setIfInBounds_toArray, List.set_cons_zero, List.set_cons_succ])
          refine wpAnyH_take (i := 10) (v := ?_) (take_at rfl) (by kernel_rfl) (by kernel_rfl) (by kernel_rfl) (fun _ _ _ h => h) (Or.inl ⟨by rfl, ?_⟩) (by assumption) ?_
          rotate_left
          · intro w' hSw; (try dsimp only at hSw); go_simp; (try with_reducible rfl)
          (try simp only [Act.put, List.setIfInBounds_toArray, List.set_cons_zero, List.set_cons_succ])
          refine wpAnyH_done (by kernel_rfl) ?_ _
          refine NoPanic.normal ?_
          go_wp2_with fail
          go_meet
          exact ⟨g9, mb, rfl, rfl, Q9.out, RM.out, P1.out, B.out⟩
        · go_simp
          have hg9 : w6.heap.size ≤ y2.heap.size := B.out.size
          have Q9 : Hid (Blk (y2.alloc (Obj.cells (marr MA.zero Mv.zero) 37)) y2.heap.size 37 (marr MA.zero Mv.zero)) := Blk.new_at rfl
          replace P1 := Lib.hid (P1.out.alloc (Obj.cells (marr MA.zero Mv.zero) 37))
          replace P2 := Lib.hid (P2.out.alloc (Obj.cells (marr MA.zero Mv.zero) 37))
          replace P3 := Lib.hid (P3.out.alloc (Obj.cells (marr MA.zero Mv.zero) 37))
          replace RP := Lib.hid (RP.out.alloc (Obj.cells (marr MA.zero Mv.zero) 37))
          replace GS := Lib.hid (GS.out.alloc (Obj.cells (marr MA.zero Mv.zero) 37))
          replace B := Lib.hid (B.out.alloc B.out.size (Obj.cells (marr MA.zero Mv.zero) 37))
          change K _ (y2.alloc (Obj.cells (marr MA.zero Mv.zero) 37))
          generalize y2.alloc (Obj.cells (marr MA.zero Mv.zero) 37) = y6 at *
          generalize y2.heap.size = g9 at *
          refine hK.out _ _ ?_ (fun hHeld2 => ?_)
          · (try dsimp only); exact ⟨P1.out, P2.out⟩
          clear hK K hHeld
          have hHeld := hHeld2
          clear hHeld2
          (try simp only [Act.put, List.setIfInBounds_toArray, List.set_cons_zero, List.set_cons_succ])
          refine wpAnyH_ready (rs := [4]) (by kernel_rfl) (by simp) ?_
          refine AllReadyH.cons (take_at rfl) (fun K hK => ?_) AllReadyH.nil
          go_simp
          have HC := mgcopy_any M51 R51 a9 [(cD gf, vId)] (some ⟨g3, 0, none⟩) 1 1 y6 (HT.out.step (Z6.out.step' B.out)) RP.out (by decide) (sl_one GS.out (rw_id P3.out)) (by omega) (by show 1 ≤ reach; decide) rfl rfl rfl
          rw [show copyL R51 M51.sp M51.lo M51.hi ([(cD gf, vId)].map Prod.snd) = [putW ⟨#[99]⟩ vId] from copyL_id] at HC
          have HC2 := Lib.hid HC
          clear HC
          refine HC2.out.mono ?_
          rintro e3 y7 ⟨mb, rfl, hr, hb⟩
          replace P1 := Lib.hid (P1.out.step hb)
          replace P2 := Lib.hid (P2.out.step hb)
          replace P3 := Lib.hid (P3.out.step hb)
          replace RP := Lib.hid (RP.out.step hb)
          replace GS := Lib.hid (GS.out.step hb)
          replace Q9 := Lib.hid (Q9.out.step hb)
          have RM := Lib.hid hr
          replace B := Lib.hid (B.out.step' hb)
          clear hb hr HC2
          (try go_wp2_with fail)
          refine hK.out _ _ ?_ (fun hHeld2 => ?_)
          · (try dsimp only); exact ⟨P1.out, P2.out⟩
          clear hK K hHeld
          have hHeld := hHeld2
          clear hHeld2
          (try simp only [Act.put, List.setIfInBounds_toArray, List.set_cons_zero, List.set_cons_succ])
          refine wpAnyH_take (i := 5) (v := ?_) (take_at rfl) (by kernel_rfl) (by kernel_rfl) (by kernel_rfl) (fun _ _ _ h => h) (Or.inl ⟨by rfl, ?_⟩) (by assumption) ?_
          rotate_left
          · intro w' hSw; (try dsimp only at hSw); go_simp; (try with_reducible rfl)
          (try simp only [Act.put, List.setIfInBounds_toArray, List.set_cons_zero, List.set_cons_succ])
          refine wpAnyH_take (i := 6) (v := ?_) (take_at rfl) (by kernel_rfl) (by kernel_rfl) (by kernel_rfl) (fun _ _ _ h => h) (Or.inl ⟨by rfl, ?_⟩) (by assumption) ?_
          rotate_left
          · intro w' hSw; (try dsimp only at hSw); go_simp; (try with_reducible rfl)
          (try simp only [Act.put, List.setIfInBounds_toArray, List.set_cons_zero, List.set_cons_succ])
          refine wpAnyH_take (i := 7) (v := ?_) (take_at rfl) (by kernel_rfl) (by kernel_rfl) (by kernel_rfl) (fun _ _ _ h => h) (Or.inl ⟨by rfl, ?_⟩) (by assumption) ?_
          rotate_left
          · intro w' hSw; (try dsimp only at hSw); go_simp; (try with_reducible rfl)
          (try simp only [Act.put, List.setIfInBounds_toArray, List.set_cons_zero, List.set_cons_succ])
          refine wpAnyH_ready (rs := [9]) (by kernel_rfl) (by simp) ?_
          refine AllReadyH.cons (take_at rfl) (fun K hK => ?_) AllReadyH.nil
          refine wp_store_row 37 _ _ rfl g9 (marr mb M52) rfl rfl 37 _ Q9.out (by rw [sizeM]; rfl) rfl (marr_all _ _) ?_
          have Q8 := Lib.hid (Blk.row Q9.out (marr mb M52))
          have P8 := Lib.hid (Blk.row_far P1.out (by have := P1L.out; omega : gm ≠ g9) (marr mb M52))
          have V8 := Lib.hid (Blk.row_far P2.out (by have := P2L.out; omega : gd ≠ g9) (marr mb M52))
          have RM8 : Hid (MR (y7.setRow g9 (marr mb M52)) mb M52) := RM.out.row_move Q9.out (by have := P1L.out; omega) (marr mb M52)
          have B8 := Lib.hid (below_row B.out hg9 (marr mb M52))
          clear Q9 P1 P2 RM B
          have Q9 := Q8
          have P1 := P8
          have P2 := V8
          have RM := RM8
          have B := B8
          clear Q8 P8 V8 RM8 B8
          generalize y7.setRow g9 (marr mb M52) = y8 at *
          refine hK.out _ _ ?_ (fun hHeld2 => ?_)
          · (try dsimp only); exact ⟨P1.out, P2.out⟩
          clear hK K hHeld
          have hHeld := hHeld2
          clear hHeld2
          (try simp only [Act.put, List.setIfInBounds_toArray, List.set_cons_zero, List.set_cons_succ])
          refine wpAnyH_take (i := 10) (v := ?_) (take_at rfl) (by kernel_rfl) (by kernel_rfl) (by kernel_rfl) (fun _ _ _ h => h) (Or.inl ⟨by rfl, ?_⟩) (by assumption) ?_
          rotate_left
          · intro w' hSw; (try dsimp only at hSw); go_simp; (try with_reducible rfl)
          (try simp only [Act.put, List.setIfInBounds_toArray, List.set_cons_zero, List.set_cons_succ])
          refine wpAnyH_done (by kernel_rfl) ?_ _
          refine NoPanic.normal ?_
          go_wp2_with fail
          go_meet
          exact ⟨g9, mb, rfl, rfl, Q9.out, RM.out, P1.out, B.out⟩
      · go_simp
        have hg9 : w6.heap.size ≤ y1.heap.size := B.out.size
        have Q9 : Hid (Blk (y1.alloc (Obj.cells (marr MA.zero Mv.zero) 37)) y1.heap.size 37 (marr MA.zero Mv.zero)) := Blk.new_at rfl
        replace P1 := Lib.hid (P1.out.alloc (Obj.cells (marr MA.zero Mv.zero) 37))
        replace P2 := Lib.hid (P2.out.alloc (Obj.cells (marr MA.zero Mv.zero) 37))
        replace P3 := Lib.hid (P3.out.alloc (Obj.cells (marr MA.zero Mv.zero) 37))
        replace RP := Lib.hid (RP.out.alloc (Obj.cells (marr MA.zero Mv.zero) 37))
        replace B := Lib.hid (B.out.alloc B.out.size (Obj.cells (marr MA.zero Mv.zero) 37))
        change K _ (y1.alloc (Obj.cells (marr MA.zero Mv.zero) 37))
        generalize y1.alloc (Obj.cells (marr MA.zero Mv.zero) 37) = y9 at *
        generalize y1.heap.size = g9 at *
        refine hK.out _ _ ?_ (fun hHeld2 => ?_)
        · (try dsimp only); exact ⟨P1.out, P2.out⟩
        clear hK K hHeld
        have hHeld := hHeld2
        clear hHeld2
        (try simp only [Act.put, List.setIfInBounds_toArray, List.set_cons_zero, List.set_cons_succ])
        refine wpAnyH_ready (rs := [3]) (by kernel_rfl) (by simp) ?_
        refine AllReadyH.cons (take_at rfl) (fun K hK => ?_) AllReadyH.nil
        go_simp
        have GS : Hid (Blk (y9.alloc (Obj.cells (cD gf).arr 46)) y9.heap.size 46 (cD gf).arr) := Blk.new_at rfl
        replace P1 := Lib.hid (P1.out.alloc (Obj.cells (cD gf).arr 46))
        replace P2 := Lib.hid (P2.out.alloc (Obj.cells (cD gf).arr 46))
        replace P3 := Lib.hid (P3.out.alloc (Obj.cells (cD gf).arr 46))
        replace RP := Lib.hid (RP.out.alloc (Obj.cells (cD gf).arr 46))
        replace Q9 := Lib.hid (Q9.out.alloc (Obj.cells (cD gf).arr 46))
        replace B := Lib.hid (B.out.alloc B.out.size (Obj.cells (cD gf).arr 46))
        change K _ (y9.alloc (Obj.cells (cD gf).arr 46))
        generalize y9.alloc (Obj.cells (cD gf).arr 46) = y10 at *
        generalize y9.heap.size = g3 at *
        refine hK.out _ _ ?_ (fun hHeld2 => ?_)
        · (try dsimp only); exact ⟨P1.out, P2.out⟩
        clear hK K hHeld
        have hHeld := hHeld2
        clear hHeld2
        (try simp only [Act.put, List.setIfInBounds_toArray, List.set_cons_zero, List.set_cons_succ])
        refine wpAnyH_ready (rs := [4]) (by kernel_rfl) (by simp) ?_
        refine AllReadyH.cons (take_at rfl) (fun K hK => ?_) AllReadyH.nil
        go_simp
        have HC := mgcopy_any M51 R51 a9 [(cD gf, vId)] (some ⟨g3, 0, none⟩) 1 1 y10 (HT.out.step (Z6.out.step' B.out)) RP.out (by decide) (sl_one GS.out (rw_id P3.out)) (by omega) (by show 1 ≤ reach; decide) rfl rfl rfl
        rw [show copyL R51 M51.sp M51.lo M51.hi ([(cD gf, vId)].map Prod.snd) = [putW ⟨#[99]⟩ vId] from copyL_id] at HC
        have HC2 := Lib.hid HC
        clear HC
        refine HC2.out.mono ?_
        rintro e3 y11 ⟨mb, rfl, hr, hb⟩
        replace P1 := Lib.hid (P1.out.step hb)
        replace P2 := Lib.hid (P2.out.step hb)
        replace P3 := Lib.hid (P3.out.step hb)
        replace RP := Lib.hid (RP.out.step hb)
        replace Q9 := Lib.hid (Q9.out.step hb)
        replace GS := Lib.hid (GS.out.step hb)
        have RM := Lib.hid hr
        replace B := Lib.hid (B.out.step' hb)
        clear hb hr HC2
        (try go_wp2_with fail)
        refine hK.out _ _ ?_ (fun hHeld2 => ?_)
        · (try dsimp only); exact ⟨P1.out, P2.out⟩
        clear hK K hHeld
        have hHeld := hHeld2
        clear hHeld2
        (try simp only [Act.put, List.setIfInBounds_toArray, List.set_cons_zero, List.set_cons_succ])
        refine wpAnyH_take (i := 5) (v := ?_) (take_at rfl) (by kernel_rfl) (by kernel_rfl) (by kernel_rfl) (fun _ _ _ h => h) (Or.inl ⟨by rfl, ?_⟩) (by assumption) ?_
        rotate_left
        · intro w' hSw; (try dsimp only at hSw); go_simp; (try with_reducible rfl)
        (try simp only [Act.put, List.setIfInBounds_toArray, List.set_cons_zero, List.set_cons_succ])
        refine wpAnyH_take (i := 6) (v := ?_) (take_at rfl) (by kernel_rfl) (by kernel_rfl) (by kernel_rfl) (fun _ _ _ h => h) (Or.inl ⟨by rfl, ?_⟩) (by assumption) ?_
        rotate_left
        · intro w' hSw; (try dsimp only at hSw); go_simp; (try with_reducible rfl)
        (try simp only [Act.put, List.setIfInBounds_toArray, List.set_cons_zero, List.set_cons_succ])
        refine wpAnyH_take (i := 7) (v := ?_) (take_at rfl) (by kernel_rfl) (by kernel_rfl) (by kernel_rfl) (fun _ _ _ h => h) (Or.inl ⟨by rfl, ?_⟩) (by assumption) ?_
        rotate_left
        · intro w' hSw; (try dsimp only at hSw); go_simp; (try with_reducible rfl)
        (try simp only [Act.put, List.setIfInBounds_toArray, List.set_cons_zero, List.set_cons_succ])
        refine wpAnyH_ready (rs := [9]) (by kernel_rfl) (by simp) ?_
        refine AllReadyH.cons (take_at rfl) (fun K hK => ?_) AllReadyH.nil
        refine wp_store_row 37 _ _ rfl g9 (marr mb M52) rfl rfl 37 _ Q9.out (by rw [sizeM]; rfl) rfl (marr_all _ _) ?_
        have Q8 := Lib.hid (Blk.row Q9.out (marr mb M52))
        have P8 := Lib.hid (Blk.row_far P1.out (by have := P1L.out; omega : gm ≠ g9) (marr mb M52))
        have V8 := Lib.hid (Blk.row_far P2.out (by have := P2L.out; omega : gd ≠ g9) (marr mb M52))
        have RM8 : Hid (MR (y11.setRow g9 (marr mb M52)) mb M52) := RM.out.row_move Q9.out (by have := P1L.out; omega) (marr mb M52)
        have B8 := Lib.hid (below_row B.out hg9 (marr mb M52))
        clear Q9 P1 P2 RM B
        have Q9 := Q8
        have P1 := P8
        have P2 := V8
        have RM := RM8
        have B := B8
        clear Q8 P8 V8 RM8 B8
        generalize y11.setRow g9 (marr mb M52) = y12 at *
        refine hK.out _ _ ?_ (fun hHeld2 => ?_)
        · (try dsimp only); exact ⟨P1.out, P2.out⟩
        clear hK K hHeld
        have hHeld := hHeld2
        clear hHeld2
        (try simp only [Act.put, List.setIfInBounds_toArray, List.set_cons_zero, List.set_cons_succ])
        refine wpAnyH_take (i := 10) (v := ?_) (take_at rfl) (by kernel_rfl) (by kernel_rfl) (by kernel_rfl) (fun _ _ _ h => h) (Or.inl ⟨by rfl, ?_⟩) (by assumption) ?_
        rotate_left
        · intro w' hSw; (try dsimp only at hSw); go_simp; (try with_reducible rfl)
        (try simp only [Act.put, List.setIfInBounds_toArray, List.set_cons_zero, List.set_cons_succ])
        refine wpAnyH_done (by kernel_rfl) ?_ _
        refine NoPanic.normal ?_
        go_wp2_with fail
        go_meet
        exact ⟨g9, mb, rfl, rfl, Q9.out, RM.out, P1.out, B.out⟩
    · go_simp
      have GS : Hid (Blk (v0.alloc (Obj.cells (cD gf).arr 46)) v0.heap.size 46 (cD gf).arr) := Blk.new_at rfl
      replace P1 := Lib.hid (P1.out.alloc (Obj.cells (cD gf).arr 46))
      replace P2 := Lib.hid (P2.out.alloc (Obj.cells (cD gf).arr 46))
      replace P3 := Lib.hid (P3.out.alloc (Obj.cells (cD gf).arr 46))
      replace B := Lib.hid (B.out.alloc B.out.size (Obj.cells (cD gf).arr 46))
      change K _ (v0.alloc (Obj.cells (cD gf).arr 46))
      generalize v0.alloc (Obj.cells (cD gf).arr 46) = y13 at *
      generalize v0.heap.size = g3 at *
      refine hK.out _ _ ?_ (fun hHeld2 => ?_)
      · (try dsimp only); exact ⟨P1.out, P2.out⟩
      clear hK K hHeld
      have hHeld := hHeld2
      clear hHeld2
      (try simp only [Act.put, List.setIfInBounds_toArray, List.set_cons_zero, List.set_cons_succ])
      refine wpAnyH_ready (rs := [1, 8]) (by kernel_rfl) (by simp) ?_
      refine AllReadyH.cons (take_at rfl) (fun K hK => ?_) (AllReadyH.cons (take_at rfl) (fun K hK => ?_) AllReadyH.nil)
      · go_simp
        refine (plain_any y13).mono ?_
        rintro e3 y14 ⟨a9, rfl, hr, hb⟩
        replace P1 := Lib.hid (P1.out.step hb)
        replace P2 := Lib.hid (P2.out.step hb)
        replace P3 := Lib.hid (P3.out.step hb)
        replace GS := Lib.hid (GS.out.step hb)
        have RP := Lib.hid hr
        replace B := Lib.hid (B.out.step' hb)
        clear hb hr
        (try go_wp2_with fail)
        refine hK.out _ _ ?_ (fun hHeld2 => ?_)
        · (try dsimp only); exact ⟨P1.out, P2.out⟩
        clear hK K hHeld
        have hHeld := hHeld2
        clear hHeld2
        (try simp only [Act.put, List.setIfInBounds_toArray, List.set_cons_zero, List.set_cons_succ])
        refine wpAnyH_ready (rs := [4, 8]) (by kernel_rfl) (by simp) ?_
        refine AllReadyH.cons (take_at rfl) (fun K hK => ?_) (AllReadyH.cons (take_at rfl) (fun K hK => ?_) AllReadyH.nil)
        · go_simp
          have HC := mgcopy_any M51 R51 a9 [(cD gf, vId)] (some ⟨g3, 0, none⟩) 1 1 y14 (HT.out.step (Z6.out.step' B.out)) RP.out (by decide) (sl_one GS.out (rw_id P3.out)) (by omega) (by show 1 ≤ reach; decide) rfl rfl rfl
          rw [show copyL R51 M51.sp M51.lo M51.hi ([(cD gf, vId)].map Prod.snd) = [putW ⟨#[99]⟩ vId] from copyL_id] at HC
          have HC2 := Lib.hid HC
          clear HC
          refine HC2.out.mono ?_
          rintro e3 y15 ⟨mb, rfl, hr, hb⟩
          replace P1 := Lib.hid (P1.out.step hb)
          replace P2 := Lib.hid (P2.out.step hb)
          replace P3 := Lib.hid (P3.out.step hb)
          replace GS := Lib.hid (GS.out.step hb)
          replace RP := Lib.hid (RP.out.step hb)
          have RM := Lib.hid hr
          replace B := Lib.hid (B.out.step' hb)
          clear hb hr HC2
          (try go_wp2_with fail)
          refine hK.out _ _ ?_ (fun hHeld2 => ?_)
          · (try dsimp only); exact ⟨P1.out, P2.out⟩
          clear hK K hHeld
          have hHeld := hHeld2
          clear hHeld2
          (try simp only [Act.put, List.setIfInBounds_toArray, List.set_cons_zero, List.set_cons_succ])
          refine wpAnyH_take (i := 5) (v := ?_) (take_at rfl) (by kernel_rfl) (by kernel_rfl) (by kernel_rfl) (fun _ _ _ h => h) (Or.inl ⟨by rfl, ?_⟩) (by assumption) ?_
          rotate_left
          · intro w' hSw; (try dsimp only at hSw); go_simp; (try with_reducible rfl)
          (try simp only [Act.put, List.setIfInBounds_toArray, List.set_cons_zero, List.set_cons_succ])
          refine wpAnyH_take (i := 6) (v := ?_) (take_at rfl) (by kernel_rfl) (by kernel_rfl) (by kernel_rfl) (fun _ _ _ h => h) (Or.inl ⟨by rfl, ?_⟩) (by assumption) ?_
          rotate_left
          · intro w' hSw; (try dsimp only at hSw); go_simp; (try with_reducible rfl)
          (try simp only [Act.put, List.setIfInBounds_toArray, List.set_cons_zero, List.set_cons_succ])
          refine wpAnyH_take (i := 7) (v := ?_) (take_at rfl) (by kernel_rfl) (by kernel_rfl) (by kernel_rfl) (fun _ _ _ h => h) (Or.inl ⟨by rfl, ?_⟩) (by assumption) ?_
          rotate_left
          · intro w' hSw; (try dsimp only at hSw); go_simp; (try with_reducible rfl)
          (try simp only [Act.put, List.setIfInBounds_toArray, List.set_cons_zero, List.set_cons_succ])
          refine wpAnyH_ready (rs := [8]) (by kernel_rfl) (by simp) ?_
          refine AllReadyH.cons (take_at rfl) (fun K hK => ?_) AllReadyH.nil
          go_simp
          have hg9 : w6.heap.size ≤ y15.heap.size := B.out.size
          have Q9 : Hid (Blk (y15.alloc (Obj.cells (marr MA.zero Mv.zero) 37)) y15.heap.size 37 (marr MA.zero Mv.zero)) := Blk.new_at rfl
          replace P1 := Lib.hid (P1.out.alloc (Obj.cells (marr MA.zero Mv.zero) 37))
          replace P2 := Lib.hid (P2.out.alloc (Obj.cells (marr MA.zero Mv.zero) 37))
          replace P3 := Lib.hid (P3.out.alloc (Obj.cells (marr MA.zero Mv.zero) 37))
          replace GS := Lib.hid (GS.out.alloc (Obj.cells (marr MA.zero Mv.zero) 37))
          replace RP := Lib.hid (RP.out.alloc (Obj.cells (marr MA.zero Mv.zero) 37))
          replace RM := Lib.hid (RM.out.alloc (Obj.cells (marr MA.zero Mv.zero) 37))
          replace B := Lib.hid (B.out.alloc B.out.size (Obj.cells (marr MA.zero Mv.zero) 37))
          change K _ (y15.alloc (Obj.cells (marr MA.zero Mv.zero) 37))
          generalize y15.alloc (Obj.cells (marr MA.zero Mv.zero) 37) = y16 at *
          generalize y15.heap.size = g9 at *
          refine hK.out _ _ ?_ (fun hHeld2 => ?_)
          · (try dsimp only); exact ⟨P1.out, P2.out⟩
          clear hK K hHeld
          have hHeld := hHeld2
          clear hHeld2
          (try simp only [Act.put, List.setIfInBounds_toArray, List.set_cons_zero, List.set_cons_succ])
          refine wpAnyH_ready (rs := [9]) (by kernel_rfl) (by simp) ?_
          refine AllReadyH.cons (take_at rfl) (fun K hK => ?_) AllReadyH.nil
          refine wp_store_row 37 _ _ rfl g9 (marr mb M52) rfl rfl 37 _ Q9.out (by rw [sizeM]; rfl) rfl (marr_all _ _) ?_
          have Q8 := Lib.hid (Blk.row Q9.out (marr mb M52))
          have P8 := Lib.hid (Blk.row_far P1.out (by have := P1L.out; omega : gm ≠ g9) (marr mb M52))
          have V8 := Lib.hid (Blk.row_far P2.out (by have := P2L.out; omega : gd ≠ g9) (marr mb M52))
          have RM8 : Hid (MR (y16.setRow g9 (marr mb M52)) mb M52) := RM.out.row_move Q9.out (by have := P1L.out; omega) (marr mb M52)
          have B8 := Lib.hid (below_row B.out hg9 (marr mb M52))
          clear Q9 P1 P2 RM B
          have Q9 := Q8
          have P1 := P8
          have P2 := V8
          have RM := RM8
          have B := B8
          clear Q8 P8 V8 RM8 B8
          generalize y16.setRow g9 (marr mb M52) = y17 at *
          refine hK.out _ _ ?_ (fun hHeld2 => ?_)
          · (try dsimp only); exact ⟨P1.out, P2.out⟩
          clear hK K hHeld
          have hHeld := hHeld2
          clear hHeld2
          (try simp only [Act.put, List.setIfInBounds_toArray, List.set_cons_zero, List.set_cons_succ])
          refine wpAnyH_take (i := 10) (v := ?_) (take_at rfl) (by kernel_rfl) (by kernel_rfl) (by kernel_rfl) (fun _ _ _ h => h) (Or.inl ⟨by rfl, ?_⟩) (by assumption) ?_
          rotate_left
          · intro w' hSw; (try dsimp only at hSw); go_simp; (try with_reducible rfl)
          (try simp only [Act.put, List.setIfInBounds_toArray, List.set_cons_zero, List.set_cons_succ])
          refine wpAnyH_done (by kernel_rfl) ?_ _
          refine NoPanic.normal ?_
          go_wp2_with fail
          go_meet
          exact ⟨g9, mb, rfl, rfl, Q9.out, RM.out, P1.out, B.out⟩
        · go_simp
          have hg9 : w6.heap.size ≤ y14.heap.size := B.out.size
          have Q9 : Hid (Blk (y14.alloc (Obj.cells (marr MA.zero Mv.zero) 37)) y14.heap.size 37 (marr MA.zero Mv.zero)) := Blk.new_at rfl
          replace P1 := Lib.hid (P1.out.alloc (Obj.cells (marr MA.zero Mv.zero) 37))
          replace P2 := Lib.hid (P2.out.alloc (Obj.cells (marr MA.zero Mv.zero) 37))
          replace P3 := Lib.hid (P3.out.alloc (Obj.cells (marr MA.zero Mv.zero) 37))
          replace GS := Lib.hid (GS.out.alloc (Obj.cells (marr MA.zero Mv.zero) 37))
          replace RP := Lib.hid (RP.out.alloc (Obj.cells (marr MA.zero Mv.zero) 37))
          replace B := Lib.hid (B.out.alloc B.out.size (Obj.cells (marr MA.zero Mv.zero) 37))
          change K _ (y14.alloc (Obj.cells (marr MA.zero Mv.zero) 37))
          generalize y14.alloc (Obj.cells (marr MA.zero Mv.zero) 37) = y18 at *
          generalize y14.heap.size = g9 at *
          refine hK.out _ _ ?_ (fun hHeld2 => ?_)
          · (try dsimp only); exact ⟨P1.out, P2.out⟩
          clear hK K hHeld
          have hHeld := hHeld2
          clear hHeld2
          (try simp only [Act.put, List.setIfInBounds_toArray, List.set_cons_zero, List.set_cons_succ])
          refine wpAnyH_ready (rs := [4]) (by kernel_rfl) (by simp) ?_
          refine AllReadyH.cons (take_at rfl) (fun K hK => ?_) AllReadyH.nil
          go_simp
          have HC := mgcopy_any M51 R51 a9 [(cD gf, vId)] (some ⟨g3, 0, none⟩) 1 1 y18 (HT.out.step (Z6.out.step' B.out)) RP.out (by decide) (sl_one GS.out (rw_id P3.out)) (by omega) (by show 1 ≤ reach; decide) rfl rfl rfl
          rw [show copyL R51 M51.sp M51.lo M51.hi ([(cD gf, vId)].map Prod.snd) = [putW ⟨#[99]⟩ vId] from copyL_id] at HC
          have HC2 := Lib.hid HC
          clear HC
          refine HC2.out.mono ?_
          rintro e3 y19 ⟨mb, rfl, hr, hb⟩
          replace P1 := Lib.hid (P1.out.step hb)
          replace P2 := Lib.hid (P2.out.step hb)
          replace P3 := Lib.hid (P3.out.step hb)
          replace GS := Lib.hid (GS.out.step hb)
          replace RP := Lib.hid (RP.out.step hb)
          replace Q9 := Lib.hid (Q9.out.step hb)
          have RM := Lib.hid hr
          replace B := Lib.hid (B.out.step' hb)
          clear hb hr HC2
          (try go_wp2_with fail)
          refine hK.out _ _ ?_ (fun hHeld2 => ?_)
          · (try dsimp only); exact ⟨P1.out, P2.out⟩
          clear hK K hHeld
          have hHeld := hHeld2
          clear hHeld2
          (try simp only [Act.put, List.setIfInBounds_toArray, List.set_cons_zero, List.set_cons_succ])
          refine wpAnyH_take (i := 5) (v := ?_) (take_at rfl) (by kernel_rfl) (by kernel_rfl) (by kernel_rfl) (fun _ _ _ h => h) (Or.inl ⟨by rfl, ?_⟩) (by assumption) ?_
          rotate_left
          · intro w' hSw; (try dsimp only at hSw); go_simp; (try with_reducible rfl)
          (try simp only [Act.put, List.setIfInBounds_toArray, List.set_cons_zero, List.set_cons_succ])
          refine wpAnyH_take (i := 6) (v := ?_) (take_at rfl) (by kernel_rfl) (by kernel_rfl) (by kernel_rfl) (fun _ _ _ h => h) (Or.inl ⟨by rfl, ?_⟩) (by assumption) ?_
          rotate_left
          · intro w' hSw; (try dsimp only at hSw); go_simp; (try with_reducible rfl)
          (try simp only [Act.put, List.setIfInBounds_toArray, List.set_cons_zero, List.set_cons_succ])
          refine wpAnyH_take (i := 7) (v := ?_) (take_at rfl) (by kernel_rfl) (by kernel_rfl) (by kernel_rfl) (fun _ _ _ h => h) (Or.inl ⟨by rfl, ?_⟩) (by assumption) ?_
          rotate_left
          · intro w' hSw; (try dsimp only at hSw); go_simp; (try with_reducible rfl)
          (try simp only [Act.put, List.setIfInBounds_toArray, List.set_cons_zero, List.set_cons_succ])
          refine wpAnyH_ready (rs := [9]) (by kernel_rfl) (by simp) ?_
          refine AllReadyH.cons (take_at rfl) (fun K hK => ?_) AllReadyH.nil
          refine wp_store_row 37 _ _ rfl g9 (marr mb M52) rfl rfl 37 _ Q9.out (by rw [sizeM]; rfl) rfl (marr_all _ _) ?_
          have Q8 := Lib.hid (Blk.row Q9.out (marr mb M52))
          have P8 := Lib.hid (Blk.row_far P1.out (by have := P1L.out; omega : gm ≠ g9) (marr mb M52))
          have V8 := Lib.hid (Blk.row_far P2.out (by have := P2L.out; omega : gd ≠ g9) (marr mb M52))
          have RM8 : Hid (MR (y19.setRow g9 (marr mb M52)) mb M52) := RM.out.row_move Q9.out (by have := P1L.out; omega) (marr mb M52)
          have B8 := Lib.hid (below_row B.out hg9 (marr mb M52))
          clear Q9 P1 P2 RM B
          have Q9 := Q8
          have P1 := P8
          have P2 := V8
          have RM := RM8
          have B := B8
          clear Q8 P8 V8 RM8 B8
          generalize y19.setRow g9 (marr mb M52) = y20 at *
          refine hK.out _ _ ?_ (fun hHeld2 => ?_)
          · (try dsimp only); exact ⟨P1.out, P2.out⟩
          clear hK K hHeld
          have hHeld := hHeld2
          clear hHeld2
          (try simp only [Act.put, List.setIfInBounds_toArray, List.set_cons_zero, List.set_cons_succ])
          refine wpAnyH_take (i := 10) (v := ?_) (take_at rfl) (by kernel_rfl) (by kernel_rfl) (by kernel_rfl) (fun _ _ _ h => h) (Or.inl ⟨by rfl, ?_⟩) (by assumption) ?_
          rotate_left
          · intro w' hSw; (try dsimp only at hSw); go_simp; (try with_reducible rfl)
          (try simp only [Act.put, List.setIfInBounds_toArray, List.set_cons_zero, List.set_cons_succ])
          refine wpAnyH_done (by kernel_rfl) ?_ _
          refine NoPanic.normal ?_
          go_wp2_with fail
          go_meet
          exact ⟨g9, mb, rfl, rfl, Q9.out, RM.out, P1.out, B.out⟩
      · go_simp
        have hg9 : w6.heap.size ≤ y13.heap.size := B.out.size
        have Q9 : Hid (Blk (y13.alloc (Obj.cells (marr MA.zero Mv.zero) 37)) y13.heap.size 37 (marr MA.zero Mv.zero)) := Blk.new_at rfl
        replace P1 := Lib.hid (P1.out.alloc (Obj.cells (marr MA.zero Mv.zero) 37))
        replace P2 := Lib.hid (P2.out.alloc (Obj.cells (marr MA.zero Mv.zero) 37))
        replace P3 := Lib.hid (P3.out.alloc (Obj.cells (marr MA.zero Mv.zero) 37))
        replace GS := Lib.hid (GS.out.alloc (Obj.cells (marr MA.zero Mv.zero) 37))
        replace B := Lib.hid (B.out.alloc B.out.size (Obj.cells (marr MA.zero Mv.zero) 37))
        change K _ (y13.alloc (Obj.cells (marr MA.zero Mv.zero) 37))
        generalize y13.alloc (Obj.cells (marr MA.zero Mv.zero) 37) = y21 at *
        generalize y13.heap.size = g9 at *
        refine hK.out _ _ ?_ (fun hHeld2 => ?_)
        · (try dsimp only); exact ⟨P1.out, P2.out⟩
        clear hK K hHeld
        have hHeld := hHeld2
        clear hHeld2
        (try simp only [Act.put, List.setIfInBounds_toArray, List.set_cons_zero, List.set_cons_succ])
        refine wpAnyH_ready (rs := [1]) (by kernel_rfl) (by simp) ?_
        refine AllReadyH.cons (take_at rfl) (fun K hK => ?_) AllReadyH.nil
        go_simp
        refine (plain_any y21).mono ?_
        rintro e3 y22 ⟨a9, rfl, hr, hb⟩
        replace P1 := Lib.hid (P1.out.step hb)
        replace P2 := Lib.hid (P2.out.step hb)
        replace P3 := Lib.hid (P3.out.step hb)
        replace GS := Lib.hid (GS.out.step hb)
        replace Q9 := Lib.hid (Q9.out.step hb)
        have RP := Lib.hid hr
        replace B := Lib.hid (B.out.step' hb)
        clear hb hr
        (try go_wp2_with fail)
        refine hK.out _ _ ?_ (fun hHeld2 => ?_)
        · (try dsimp only); exact ⟨P1.out, P2.out⟩
        clear hK K hHeld
        have hHeld := hHeld2
        clear hHeld2
        (try simp only [Act.put, List.setIfInBounds_toArray, List.set_cons_zero, List.set_cons_succ])
        refine wpAnyH_ready (rs := [4]) (by kernel_rfl) (by simp) ?_
        refine AllReadyH.cons (take_at rfl) (fun K hK => ?_) AllReadyH.nil
        go_simp
        have HC := mgcopy_any M51 R51 a9 [(cD gf, vId)] (some ⟨g3, 0, none⟩) 1 1 y22 (HT.out.step (Z6.out.step' B.out)) RP.out (by decide) (sl_one GS.out (rw_id P3.out)) (by omega) (by show 1 ≤ reach; decide) rfl rfl rfl
        rw [show copyL R51 M51.sp M51.lo M51.hi ([(cD gf, vId)].map Prod.snd) = [putW ⟨#[99]⟩ vId] from copyL_id] at HC
        have HC2 := Lib.hid HC
        clear HC
        refine HC2.out.mono ?_
        rintro e3 y23 ⟨mb, rfl, hr, hb⟩
        replace P1 := Lib.hid (P1.out.step hb)
        replace P2 := Lib.hid (P2.out.step hb)
        replace P3 := Lib.hid (P3.out.step hb)
        replace GS := Lib.hid (GS.out.step hb)
        replace Q9 := Lib.hid (Q9.out.step hb)
        replace RP := Lib.hid (RP.out.step hb)
        have RM := Lib.hid hr
        replace B := Lib.hid (B.out.step' hb)
        clear hb hr HC2
        (try go_wp2_with fail)
        refine hK.out _ _ ?_ (fun hHeld2 => ?_)
        · (try dsimp only); exact ⟨P1.out, P2.out⟩
        clear hK K hHeld
        have hHeld := hHeld2
        clear hHeld2
        (try simp only [Act.put, List.setIfInBounds_toArray, List.set_cons_zero, List.set_cons_succ])
        refine wpAnyH_take (i := 5) (v := ?_) (take_at rfl) (by kernel_rfl) (by kernel_rfl) (by kernel_rfl) (fun _ _ _ h => h) (Or.inl ⟨by rfl, ?_⟩) (by assumption) ?_
        rotate_left
        · intro w' hSw; (try dsimp only at hSw); go_simp; (try with_reducible rfl)
        (try simp only [Act.put, List.setIfInBounds_toArray, List.set_cons_zero, List.set_cons_succ])
        refine wpAnyH_take (i := 6) (v := ?_) (take_at rfl) (by kernel_rfl) (by kernel_rfl) (by kernel_rfl) (fun _ _ _ h => h) (Or.inl ⟨by rfl, ?_⟩) (by assumption) ?_
        rotate_left
        · intro w' hSw; (try dsimp only at hSw); go_simp; (try with_reducible rfl)
        (try simp only [Act.put, List.setIfInBounds_toArray, List.set_cons_zero, List.set_cons_succ])
        refine wpAnyH_take (i := 7) (v := ?_) (take_at rfl) (by kernel_rfl) (by kernel_rfl) (by kernel_rfl) (fun _ _ _ h => h) (Or.inl ⟨by rfl, ?_⟩) (by assumption) ?_
        rotate_left
        · intro w' hSw; (try dsimp only at hSw); go_simp; (try with_reducible rfl)
        (try simp only [Act.put, List.setIfInBounds_toArray, List.set_cons_zero, List.set_cons_succ])
        refine wpAnyH_ready (rs := [9]) (by kernel_rfl) (by simp) ?_
        refine AllReadyH.cons (take_at rfl) (fun K hK => ?_) AllReadyH.nil
        refine wp_store_row 37 _ _ rfl g9 (marr mb M52) rfl rfl 37 _ Q9.out (by rw [sizeM]; rfl) rfl (marr_all _ _) ?_
        have Q8 := Lib.hid (Blk.row Q9.out (marr mb M52))
        have P8 := Lib.hid (Blk.row_far P1.out (by have := P1L.out; omega : gm ≠ g9) (marr mb M52))
        have V8 := Lib.hid (Blk.row_far P2.out (by have := P2L.out; omega : gd ≠ g9) (marr mb M52))
        have RM8 : Hid (MR (y23.setRow g9 (marr mb M52)) mb M52) := RM.out.row_move Q9.out (by have := P1L.out; omega) (marr mb M52)
        have B8 := Lib.hid (below_row B.out hg9 (marr mb M52))
        clear Q9 P1 P2 RM B
        have Q9 := Q8
        have P1 := P8
        have P2 := V8
        have RM := RM8
        have B := B8
        clear Q8 P8 V8 RM8 B8
        generalize y23.setRow g9 (marr mb M52) = y24 at *
        refine hK.out _ _ ?_ (fun hHeld2 => ?_)
        · (try dsimp only); exact ⟨P1.out, P2.out⟩
        clear hK K hHeld
        have hHeld := hHeld2
        clear hHeld2
        (try simp only [Act.put, List.setIfInBounds_toArray, List.set_cons_zero, List.set_cons_succ])
        refine wpAnyH_take (i := 10) (v := ?_) (take_at rfl) (by kernel_rfl) (by kernel_rfl) (by kernel_rfl) (fun _ _ _ h => h) (Or.inl ⟨by rfl, ?_⟩) (by assumption) ?_
        rotate_left
        · intro w' hSw; (try dsimp only at hSw); go_simp; (try with_reducible rfl)
        (try simp only [Act.put, List.setIfInBounds_toArray, List.set_cons_zero, List.set_cons_succ])
        refine wpAnyH_done (by kernel_rfl) ?_ _
        refine NoPanic.normal ?_
        go_wp2_with fail
        go_meet
        exact ⟨g9, mb, rfl, rfl, Q9.out, RM.out, P1.out, B.out⟩
    · go_simp
      have hg9 : w6.heap.size ≤ v0.heap.size := B.out.size
      have Q9 : Hid (Blk (v0.alloc (Obj.cells (marr MA.zero Mv.zero) 37)) v0.heap.size 37 (marr MA.zero Mv.zero)) := Blk.new_at rfl
      replace P1 := Lib.hid (P1.out.alloc (Obj.cells (marr MA.zero Mv.zero) 37))
      replace P2 := Lib.hid (P2.out.alloc (Obj.cells (marr MA.zero Mv.zero) 37))
      replace P3 := Lib.hid (P3.out.alloc (Obj.cells (marr MA.zero Mv.zero) 37))
      replace B := Lib.hid (B.out.alloc B.out.size (Obj.cells (marr MA.zero Mv.zero) 37))
      change K _ (v0.alloc (Obj.cells (marr MA.zero Mv.zero) 37))
      generalize v0.alloc (Obj.cells (marr MA.zero Mv.zero) 37) = y25 at *
      generalize v0.heap.size = g9 at *
      refine hK.out _ _ ?_ (fun hHeld2 => ?_)
      · (try dsimp only); exact ⟨P1.out, P2.out⟩
      clear hK K hHeld
      have hHeld := hHeld2
      clear hHeld2
      (try simp only [Act.put, List.setIfInBounds_toArray, List.set_cons_zero, List.set_cons_succ])
      refine wpAnyH_ready (rs := [1, 3]) (by kernel_rfl) (by simp) ?_
      refine AllReadyH.cons (take_at rfl) (fun K hK => ?_) (AllReadyH.cons (take_at rfl) (fun K hK => ?_) AllReadyH.nil)
      · go_simp
        refine (plain_any y25).mono ?_
        rintro e3 y26 ⟨a9, rfl, hr, hb⟩
        replace P1 := Lib.hid (P1.out.step hb)
        replace P2 := Lib.hid (P2.out.step hb)
        replace P3 := Lib.hid (P3.out.step hb)
        replace Q9 := Lib.hid (Q9.out.step hb)
        have RP := Lib.hid hr
        replace B := Lib.hid (B.out.step' hb)
        clear hb hr
        (try go_wp2_with fail)
        refine hK.out _ _ ?_ (fun hHeld2 => ?_)
        · (try dsimp only); exact ⟨P1.out, P2.out⟩
        clear hK K hHeld
        have hHeld := hHeld2
        clear hHeld2
        (try simp only [Act.put, List.setIfInBounds_toArray, List.set_cons_zero, List.set_cons_succ])
        refine wpAnyH_ready (rs := [3]) (by kernel_rfl) (by simp) ?_
        refine AllReadyH.cons (take_at rfl) (fun K hK => ?_) AllReadyH.nil
        go_simp
        have GS : Hid (Blk (y26.alloc (Obj.cells (cD gf).arr 46)) y26.heap.size 46 (cD gf).arr) := Blk.new_at rfl
        replace P1 := Lib.hid (P1.out.alloc (Obj.cells (cD gf).arr 46))
        replace P2 := Lib.hid (P2.out.alloc (Obj.cells (cD gf).arr 46))
        replace P3 := Lib.hid (P3.out.alloc (Obj.cells (cD gf).arr 46))
        replace Q9 := Lib.hid (Q9.out.alloc (Obj.cells (cD gf).arr 46))
        replace RP := Lib.hid (RP.out.alloc (Obj.cells (cD gf).arr 46))
        replace B := Lib.hid (B.out.alloc B.out.size (Obj.cells (cD gf).arr 46))
        change K _ (y26.alloc (Obj.cells (cD gf).arr 46))
        generalize y26.alloc (Obj.cells (cD gf).arr 46) = y27 at *
        generalize y26.heap.size = g3 at *
        refine hK.out _ _ ?_ (fun hHeld2 => ?_)
        · (try dsimp only); exact ⟨P1.out, P2.out⟩
        clear hK K hHeld
        have hHeld := hHeld2
        clear hHeld2
        (try simp only [Act.put, List.setIfInBounds_toArray, List.set_cons_zero, List.set_cons_succ])
        refine wpAnyH_ready (rs := [4]) (by kernel_rfl) (by simp) ?_
        refine AllReadyH.cons (take_at rfl) (fun K hK => ?_) AllReadyH.nil
        go_simp
        have HC := mgcopy_any M51 R51 a9 [(cD gf, vId)] (some ⟨g3, 0, none⟩) 1 1 y27 (HT.out.step (Z6.out.step' B.out)) RP.out (by decide) (sl_one GS.out (rw_id P3.out)) (by omega) (by show 1 ≤ reach; decide) rfl rfl rfl
        rw [show copyL R51 M51.sp M51.lo M51.hi ([(cD gf, vId)].map Prod.snd) = [putW ⟨#[99]⟩ vId] from copyL_id] at HC
        have HC2 := Lib.hid HC
        clear HC
        refine HC2.out.mono ?_
        rintro e3 y28 ⟨mb, rfl, hr, hb⟩
        replace P1 := Lib.hid (P1.out.step hb)
        replace P2 := Lib.hid (P2.out.step hb)
        replace P3 := Lib.hid (P3.out.step hb)
        replace Q9 := Lib.hid (Q9.out.step hb)
        replace RP := Lib.hid (RP.out.step hb)
        replace GS := Lib.hid (GS.out.step hb)
        have RM := Lib.hid hr
        replace B := Lib.hid (B.out.step' hb)
        clear hb hr HC2
        (try go_wp2_with fail)
        refine hK.out _ _ ?_ (fun hHeld2 => ?_)
        · (try dsimp only); exact ⟨P1.out, P2.out⟩
        clear hK K hHeld
        have hHeld := hHeld2
        clear hHeld2
        (try simp only [Act.put, List.setIfInBounds_toArray, List.set_cons_zero, List.set_cons_succ])
        refine wpAnyH_take (i := 5) (v := ?_) (take_at rfl) (by kernel_rfl) (by kernel_rfl) (by kernel_rfl) (fun _ _ _ h => h) (Or.inl ⟨by rfl, ?_⟩) (by assumption) ?_
        rotate_left
        · intro w' hSw; (try dsimp only at hSw); go_simp; (try with_reducible rfl)
        (try simp only [Act.put, List.setIfInBounds_toArray, List.set_cons_zero, List.set_cons_succ])
        refine wpAnyH_take (i := 6) (v := ?_) (take_at rfl) (by kernel_rfl) (by kernel_rfl) (by kernel_rfl) (fun _ _ _ h => h) (Or.inl ⟨by rfl, ?_⟩) (by assumption) ?_
        rotate_left
        · intro w' hSw; (try dsimp only at hSw); go_simp; (try with_reducible rfl)
        (try simp only [Act.put, List.setIfInBounds_toArray, List.set_cons_zero, List.set_cons_succ])
        refine wpAnyH_take (i := 7) (v := ?_) (take_at rfl) (by kernel_rfl) (by kernel_rfl) (by kernel_rfl) (fun _ _ _ h => h) (Or.inl ⟨by rfl, ?_⟩) (by assumption) ?_
        rotate_left
        · intro w' hSw; (try dsimp only at hSw); go_simp; (try with_reducible rfl)
        (try simp only [Act.put, List.setIfInBounds_toArray, List.set_cons_zero, List.set_cons_succ])
        refine wpAnyH_ready (rs := [9]) (by kernel_rfl) (by simp) ?_
        refine AllReadyH.cons (take_at rfl) (fun K hK => ?_) AllReadyH.nil
        refine wp_store_row 37 _ _ rfl g9 (marr mb M52) rfl rfl 37 _ Q9.out (by rw [sizeM]; rfl) rfl (marr_all _ _) ?_
        have Q8 := Lib.hid (Blk.row Q9.out (marr mb M52))
        have P8 := Lib.hid (Blk.row_far P1.out (by have := P1L.out; omega : gm ≠ g9) (marr mb M52))
        have V8 := Lib.hid (Blk.row_far P2.out (by have := P2L.out; omega : gd ≠ g9) (marr mb M52))
        have RM8 : Hid (MR (y28.setRow g9 (marr mb M52)) mb M52) := RM.out.row_move Q9.out (by have := P1L.out; omega) (marr mb M52)
        have B8 := Lib.hid (below_row B.out hg9 (marr mb M52))
        clear Q9 P1 P2 RM B
        have Q9 := Q8
        have P1 := P8
        have P2 := V8
        have RM := RM8
        have B := B8
        clear Q8 P8 V8 RM8 B8
        generalize y28.setRow g9 (marr mb M52) = y29 at *
        refine hK.out _ _ ?_ (fun hHeld2 => ?_)
        · (try dsimp only); exact ⟨P1.out, P2.out⟩
        clear hK K hHeld
        have hHeld := hHeld2
        clear hHeld2
        (try simp only [Act.put, List.setIfInBounds_toArray, List.set_cons_zero, List.set_cons_succ])
        refine wpAnyH_take (i := 10) (v := ?_) (take_at rfl) (by kernel_rfl) (by kernel_rfl) (by kernel_rfl) (fun _ _ _ h => h) (Or.inl ⟨by rfl, ?_⟩) (by assumption) ?_
        rotate_left
        · intro w' hSw; (try dsimp only at hSw); go_simp; (try with_reducible rfl)
        (try simp only [Act.put, List.setIfInBounds_toArray, List.set_cons_zero, List.set_cons_succ])
        refine wpAnyH_done (by kernel_rfl) ?_ _
        refine NoPanic.normal ?_
        go_wp2_with fail
        go_meet
        exact ⟨g9, mb, rfl, rfl, Q9.out, RM.out, P1.out, B.out⟩
      · go_simp
        have GS : Hid (Blk (y25.alloc (Obj.cells (cD gf).arr 46)) y25.heap.size 46 (cD gf).arr) := Blk.new_at rfl
        replace P1 := Lib.hid (P1.out.alloc (Obj.cells (cD gf).arr 46))
        replace P2 := Lib.hid (P2.out.alloc (Obj.cells (cD gf).arr 46))
        replace P3 := Lib.hid (P3.out.alloc (Obj.cells (cD gf).arr 46))
        replace Q9 := Lib.hid (Q9.out.alloc (Obj.cells (cD gf).arr 46))
        replace B := Lib.hid (B.out.alloc B.out.size (Obj.cells (cD gf).arr 46))
        change K _ (y25.alloc (Obj.cells (cD gf).arr 46))
        generalize y25.alloc (Obj.cells (cD gf).arr 46) = y30 at *
        generalize y25.heap.size = g3 at *
        refine hK.out _ _ ?_ (fun hHeld2 => ?_)
        · (try dsimp only); exact ⟨P1.out, P2.out⟩
        clear hK K hHeld
        have hHeld := hHeld2
        clear hHeld2
        (try simp only [Act.put, List.setIfInBounds_toArray, List.set_cons_zero, List.set_cons_succ])
        refine wpAnyH_ready (rs := [1]) (by kernel_rfl) (by simp) ?_
        refine AllReadyH.cons (take_at rfl) (fun K hK => ?_) AllReadyH.nil
        go_simp
        refine (plain_any y30).mono ?_
        rintro e3 y31 ⟨a9, rfl, hr, hb⟩
        replace P1 := Lib.hid (P1.out.step hb)
        replace P2 := Lib.hid (P2.out.step hb)
        replace P3 := Lib.hid (P3.out.step hb)
        replace Q9 := Lib.hid (Q9.out.step hb)
        replace GS := Lib.hid (GS.out.step hb)
        have RP := Lib.hid hr
        replace B := Lib.hid (B.out.step' hb)
        clear hb hr
        (try go_wp2_with fail)
        refine hK.out _ _ ?_ (fun hHeld2 => ?_)
        · (try dsimp only); exact ⟨P1.out, P2.out⟩
        clear hK K hHeld
        have hHeld := hHeld2
        clear hHeld2
        (try simp only [Act.put, List.setIfInBounds_toArray, List.set_cons_zero, List.set_cons_succ])
        refine wpAnyH_ready (rs := [4]) (by kernel_rfl) (by simp) ?_
        refine AllReadyH.cons (take_at rfl) (fun K hK => ?_) AllReadyH.nil
        go_simp
        have HC := mgcopy_any M51 R51 a9 [(cD gf, vId)] (some ⟨g3, 0, none⟩) 1 1 y31 (HT.out.step (Z6.out.step' B.out)) RP.out (by decide) (sl_one GS.out (rw_id P3.out)) (by omega) (by show 1 ≤ reach; decide) rfl rfl rfl
        rw [show copyL R51 M51.sp M51.lo M51.hi ([(cD gf, vId)].map Prod.snd) = [putW ⟨#[99]⟩ vId] from copyL_id] at HC
        have HC2 := Lib.hid HC
        clear HC
        refine HC2.out.mono ?_
        rintro e3 y32 ⟨mb, rfl, hr, hb⟩
        replace P1 := Lib.hid (P1.out.step hb)
        replace P2 := Lib.hid (P2.out.step hb)
        replace P3 := Lib.hid (P3.out.step hb)
        replace Q9 := Lib.hid (Q9.out.step hb)
        replace GS := Lib.hid (GS.out.step hb)
        replace RP := Lib.hid (RP.out.step hb)
        have RM := Lib.hid hr
        replace B := Lib.hid (B.out.step' hb)
        clear hb hr HC2
        (try go_wp2_with fail)
        refine hK.out _ _ ?_ (fun hHeld2 => ?_)
        · (try dsimp only); exact ⟨P1.out, P2.out⟩
        clear hK K hHeld
        have hHeld := hHeld2
        clear hHeld2
        (try simp only [Act.put, List.setIfInBounds_toArray, List.set_cons_zero, List.set_cons_succ])
        refine wpAnyH_take (i := 5) (v := ?_) (take_at rfl) (by kernel_rfl) (by kernel_rfl) (by kernel_rfl) (fun _ _ _ h => h) (Or.inl ⟨by rfl, ?_⟩) (by assumption) ?_
        rotate_left
        · intro w' hSw; (try dsimp only at hSw); go_simp; (try with_reducible rfl)
        (try simp only [Act.put, List.setIfInBounds_toArray, List.set_cons_zero, List.set_cons_succ])
        refine wpAnyH_take (i := 6) (v := ?_) (take_at rfl) (by kernel_rfl) (by kernel_rfl) (by kernel_rfl) (fun _ _ _ h => h) (Or.inl ⟨by rfl, ?_⟩) (by assumption) ?_
        rotate_left
        · intro w' hSw; (try dsimp only at hSw); go_simp; (try with_reducible rfl)
        (try simp only [Act.put, List.setIfInBounds_toArray, List.set_cons_zero, List.set_cons_succ])
        refine wpAnyH_take (i := 7) (v := ?_) (take_at rfl) (by kernel_rfl) (by kernel_rfl) (by kernel_rfl) (fun _ _ _ h => h) (Or.inl ⟨by rfl, ?_⟩) (by assumption) ?_
        rotate_left
        · intro w' hSw; (try dsimp only at hSw); go_simp; (try with_reducible rfl)
        (try simp only [Act.put, List.setIfInBounds_toArray, List.set_cons_zero, List.set_cons_succ])
        refine wpAnyH_ready (rs := [9]) (by kernel_rfl) (by simp) ?_
        refine AllReadyH.cons (take_at rfl) (fun K hK => ?_) AllReadyH.nil
        refine wp_store_row 37 _ _ rfl g9 (marr mb M52) rfl rfl 37 _ Q9.out (by rw [sizeM]; rfl) rfl (marr_all _ _) ?_
        have Q8 := Lib.hid (Blk.row Q9.out (marr mb M52))
        have P8 := Lib.hid (Blk.row_far P1.out (by have := P1L.out; omega : gm ≠ g9) (marr mb M52))
        have V8 := Lib.hid (Blk.row_far P2.out (by have := P2L.out; omega : gd ≠ g9) (marr mb M52))
        have RM8 : Hid (MR (y32.setRow g9 (marr mb M52)) mb M52) := RM.out.row_move Q9.out (by have := P1L.out; omega) (marr mb M52)
        have B8 := Lib.hid (below_row B.out hg9 (marr mb M52))
        clear Q9 P1 P2 RM B
        have Q9 := Q8
        have P1 := P8
        have P2 := V8
        have RM := RM8
        have B := B8
        clear Q8 P8 V8 RM8 B8
        generalize y32.setRow g9 (marr mb M52) = y33 at *
        refine hK.out _ _ ?_ (fun hHeld2 => ?_)
        · (try dsimp only); exact ⟨P1.out, P2.out⟩
        clear hK K hHeld
        have hHeld := hHeld2
        clear hHeld2
        (try simp only [Act.put, List.setIfInBounds_toArray, List.set_cons_zero, List.set_cons_succ])
        refine wpAnyH_take (i := 10) (v := ?_) (take_at rfl) (by kernel_rfl) (by kernel_rfl) (by kernel_rfl) (fun _ _ _ h => h) (Or.inl ⟨by rfl, ?_⟩) (by assumption) ?_
        rotate_left
        · intro w' hSw; (try dsimp only at hSw); go_simp; (try with_reducible rfl)
        (try simp only [Act.put, List.setIfInBounds_toArray, List.set_cons_zero, List.set_cons_succ])
        refine wpAnyH_done (by kernel_rfl) ?_ _
        refine NoPanic.normal ?_
        go_wp2_with fail
        go_meet
        exact ⟨g9, mb, rfl, rfl, Q9.out, RM.out, P1.out, B.out⟩
  case rest =>
    obtain ⟨g9, mb, rfl, rfl, hq, hm, hp, hb⟩ := hcut
    have Q9 := Lib.hid hq
    have RM := Lib.hid hm
    clear P1
    have P1 := Lib.hid hp
    have ZC := Lib.hid (Z6.out.step' hb)
    clear hq hm hp hb Z6 P2 P3 P1L P2L
    generalize wc = w7 at *
    have HL := Lib.hid (load_any M52 mb w7 RM.out rfl (by decide) (by decide))
    go_wp2_with (refine wpList_load_row rfl 37 _ rfl g9 rfl _ _ _ _ Q9.out Tryz.underlying37 rfl (by rw [sizeM]; rfl) ?_)
    refine HL.out.mono ?_
    rintro e w8 ⟨LA, ln, lc, ls, rfl, hls, hws, hb⟩
    have hl1 : ls.length = 1 := by
      have := congrArg List.length hls
      simpa using this
    obtain ⟨⟨wc1, wt1⟩, rfl⟩ : ∃ p, ls = [p] := List.length_eq_one_iff.1 hl1
    have hwt : wt1 = putW ⟨#[99]⟩ vId := by simpa using hls
    subst hwt
    obtain rfl : ln = 1 := hws.sr.ln
    obtain ⟨bl, ol, rfl, _, hel⟩ := hws.sr.el (by omega)
    have hrw := hws.el _ (List.mem_singleton.2 rfl)
    have e0 := hel 0 _ rfl 0 _ rfl
    have e77 := hel 0 (wc1, putW ⟨#[99]⟩ vId) rfl 77 (.bool wc1.si) rfl
    have hk1 : wc1.kd = 2 := hrw.kd
    have hs1 : wc1.si = true := hrw.si
    rw [hk1] at e0
    rw [hs1] at e77
    simp only [Nat.zero_mul, Nat.add_zero] at e0 e77
    have E0 := Lib.hid e0
    have E77 := Lib.hid e77
    have ZD := Lib.hid (ZC.out.step' hb)
    replace P1 := Lib.hid (P1.out.step hb)
    replace Q9 := Lib.hid (Q9.out.step hb)
    clear hls hws hb hel hrw hk1 hs1 e0 e77 hl1 ZC HL RM
    go_upto_region 6 with fail
    have MZ : Hid (Below w8.heap.size w8 (w8.alloc (Obj.cells (marr MA.zero ⟨⟨#[99]⟩, ByteArray.empty, ByteArray.empty, 0, 1, 2, [], []⟩) 37))) := Lib.hid ((Below.refl _ _).alloc (Nat.le_refl _) _)
    change Code.wp _ _ _ _ (w8.alloc (Obj.cells (marr MA.zero ⟨⟨#[99]⟩, ByteArray.empty, ByteArray.empty, 0, 1, 2, [], []⟩) 37))
    generalize w8.alloc (Obj.cells (marr MA.zero ⟨⟨#[99]⟩, ByteArray.empty, ByteArray.empty, 0, 1, 2, [], []⟩) 37) = w9 at *
    have c0 : w9.cell? ⟨bl, ol, none⟩ = some (.int .i64 2) := (MZ.out.cell (World.block_lt_of_cell? w8 _ E0.out)).trans E0.out
    have c77 : w9.cell? ⟨bl, ol + 77, none⟩ = some (.bool true) := (MZ.out.cell (World.block_lt_of_cell? w8 _ E77.out)).trans E77.out
    replace P1 := Lib.hid (P1.out.step MZ.out)
    replace Q9 := Lib.hid (Q9.out.step MZ.out)
    have m3 : w9.cell? ⟨gm, 3, none⟩ = some (.int .i64 0) := P1.out.cell 3
    have m4 : w9.cell? ⟨gm, 4, none⟩ = some (.int .i64 1) := P1.out.cell 4
    have m5 : w9.cell? ⟨gm, 5, none⟩ = some (.int .i64 1) := P1.out.cell 5
    have n5 : w9.cell? ⟨g9, 5, none⟩ = some (.int .i64 2) := Q9.out.cell 5
    have ZE := Lib.hid (ZD.out.step' MZ.out)
    clear E0 E77 MZ ZD P1 Q9
    go_wp2_with fail
    go_ret
    exact ⟨rfl, ZE.out⟩

end Go.Proofs.YtlmmgjgkmbmgpaaGreatDoor



/- The contract of chunks.Valid. Printed by gen_chvalid.py. -/
namespace Go.Proofs.YtlmmgjgkmbmgpaaGreatDoor
open Go.RowKit

theorem linkB_at {l : List Ch} {j : Nat} {x y : Ch} (hx : l[j]? = some x) (hy : l[j + 1]? = some y) : linkB (l.drop j) = ((y.lo.toList == x.hi.toList) && !(Op.bytesLess y.lo.toList x.lo.toList || y.lo.toList == x.lo.toList) && linkB (l.drop (j + 1))) := by
  rw [drop_of hx, drop_of hy, linkB]

end Go.Proofs.YtlmmgjgkmbmgpaaGreatDoor



/- The contract of the reference's Valid. Printed by gen_chvalid.py. -/
namespace Go.Proofs.YtlmmgjgkmbmgpaaGreatDoor
open Go.RowKit

set_option maxRecDepth 100000 in
set_option maxHeartbeats 1000000 in
theorem rvalid49_any (R : Ro) (a : RA) (w : World) (h : RR w a R) : Calls Tryz.prog 7 #[rval a R] w fun e w' => e = .returned (.int .i64 (routE R)) ∧ Below w.heap.size w w' := by
  obtain ⟨KA, kn, kc, CA, cn, cc⟩ := a
  have H := Lib.hid h
  have hn : Hid (cn = R.cs.length) := h.cs.ln
  have hcz : cn * 56 ≤ reach := h.cs.sz
  have hlc : cn ≤ cc := h.cs.sr.lc
  have hkn : cn ≤ 140737488355328 := by unfold reach at hcz; omega
  have HLC := Lib.hid hlc
  clear h hcz hlc
  have B0 : Hid (Blk (w.alloc (Obj.cells (rarr ⟨KA, kn, kc, CA, cn, cc⟩ R) 27)) w.heap.size 27 (rarr ⟨KA, kn, kc, CA, cn, cc⟩ R)) := Blk.new_at rfl
  have BE : Hid (Below w.heap.size w (w.alloc (Obj.cells (rarr ⟨KA, kn, kc, CA, cn, cc⟩ R) 27))) := (Below.refl _ _).alloc (Nat.le_refl _) _
  go_enter Tryz.func7, Tryz.ntmps7
  go_upto_region 1 with fail
  change (Code.region 1 _ _).wp _ _ _ (w.alloc (Obj.cells (rarr ⟨KA, kn, kc, CA, cn, cc⟩ R) 27))
  generalize w.alloc (Obj.cells (rarr ⟨KA, kn, kc, CA, cn, cc⟩ R) 27) = wa at *
  obtain ⟨q0, q1, q2, q3, q4, q5, qz⟩ := blk_ro B0.out
  simp only at q1 q5
  go_wp2_with fail
  clear q0 q1 q2 q3 q4 q5 qz
  refine (rname_any R.sp wa).mono ?_
  rintro e w1 ⟨rfl, rfl⟩
  have D0 := B0
  have DE := BE
  clear B0 BE
  cases hnm : nameB R.sp
  · have HF : Hid (routE R = 9) := by unfold Hid routE; rw [if_pos hnm]
    go_wp2_with fail
    go_ret
    exact ⟨by rw [HF.out]; rfl, DE.out⟩
  obtain ⟨q0, q1, q2, q3, q4, q5, qz⟩ := blk_ro D0.out
  simp only at q1 q5
  go_wp2_with fail
  clear q0 q1 q2 q3 q4 q5 qz
  refine (rshardkey_any R.ks R.ha KA kn kc w1 (H.out.ks.step DE.out)).mono ?_
  rintro e w2 ⟨rfl, hb2⟩
  have F0 := Lib.hid (D0.out.step hb2)
  have FE := Lib.hid (DE.out.step' hb2)
  clear hb2 D0 DE
  by_cases hke : keyE R.ks R.ha = 0
  rotate_left
  · have HF : Hid (routE R = keyE R.ks R.ha) := by unfold Hid routE; rw [if_neg (by simp [hnm]), if_pos hke]
    have hke' : (keyE R.ks R.ha != 0) = true := by simpa using hke
    go_wp2_with fail
    go_ret
    exact ⟨by rw [HF.out]; rfl, FE.out⟩
  have HV : Hid (routE R = if 64 < R.cs.length then 2 else if R.ep < 1 ∨ R.ver < 1 then 1 else if R.cs.any (badC R.ver) then 1 else if endsB R.cs = false then 4 else if linkB R.cs = false then 4 else 0) := by
    unfold Hid routE
    rw [if_neg (by simp [hnm]), if_neg (by simpa using hke)]
  rw [hke]
  clear hke hnm
  obtain ⟨q0, q1, q2, q3, q4, q5, qz⟩ := blk_ro F0.out
  simp only at q1 q5
  by_cases h64 : 64 < cn
  · have HF : Hid (routE R = 2) := by rw [Hid, HV.out, if_pos (by rw [← hn.out]; exact h64)]
    go_wp2_with fail
    go_ret
    exact ⟨by rw [HF.out]; rfl, FE.out⟩
  have HV1 : Hid (routE R = if R.ep < 1 ∨ R.ver < 1 then 1 else if R.cs.any (badC R.ver) then 1 else if endsB R.cs = false then 4 else if linkB R.cs = false then 4 else 0) := by rw [Hid, HV.out, if_neg (by rw [← hn.out]; exact h64)]
  clear HV
  by_cases hep : R.ep < 1
  · have HF : Hid (routE R = 1) := by rw [Hid, HV1.out, if_pos (.inl hep)]
    go_wp2_with fail
    go_ret
    exact ⟨by rw [HF.out]; rfl, FE.out⟩
  by_cases hve : R.ver < 1
  · have HF : Hid (routE R = 1) := by rw [Hid, HV1.out, if_pos (.inr hve)]
    go_wp2_with fail
    go_ret
    exact ⟨by rw [HF.out]; rfl, FE.out⟩
  have HV2 : Hid (routE R = if R.cs.any (badC R.ver) then 1 else if endsB R.cs = false then 4 else if linkB R.cs = false then 4 else 0) := by rw [Hid, HV1.out, if_neg (by omega)]
  clear HV1
  have HEP := Lib.hid hep
  have HVE := Lib.hid hve
  go_wp2_with fail
  clear q0 q1 q2 q3 q4 q5 qz hep hve
  go_loopw [4] (fun v wr => ∃ i : Nat, i ≤ cn ∧ v = .int .i64 i ∧ R.cs.any (badC R.ver) = (R.cs.drop i).any (badC R.ver) ∧ Blk wr w.heap.size 27 (rarr ⟨KA, kn, kc, CA, cn, cc⟩ R) ∧ Below w.heap.size w wr) (fun v _ => cn - (intOf v).toNat)
  case atStart => exact ⟨0, Nat.zero_le _, rfl, rfl, F0.out, FE.out⟩
  case round =>
    obtain ⟨i, hi, rfl, hany, hblk, hbel⟩ := hrel
    have HA := Lib.hid hany
    have HB := Lib.hid hbel
    have HK := Lib.hid hblk
    clear hany
    obtain ⟨q0, q1, q2, q3, q4, q5, qz⟩ := blk_ro hblk
    simp only at q1 q5
    have hNl := hblk.lt
    by_cases hlt : i < cn
    · obtain ⟨b, off, x, hA, hb, hx, e0, e1, e2, e3, e4⟩ := H.out.cs.sr.at5 hlt
      simp only at hA
      subst hA
      have HX : Hid ((R.cs.drop i).any (badC R.ver) = (badC R.ver x || (R.cs.drop (i + 1)).any (badC R.ver))) := by rw [Hid, drop_of hx]; rfl
      have g0 := (hbel.cell (p := ⟨b, off + i * 5, none⟩) hb).trans e0
      have g1 := (hbel.cell (p := ⟨b, off + i * 5 + 1, none⟩) hb).trans e1
      have g2 := (hbel.cell (p := ⟨b, off + i * 5 + 2, none⟩) hb).trans e2
      have g3 := (hbel.cell (p := ⟨b, off + i * 5 + 3, none⟩) hb).trans e3
      have g4 := (hbel.cell (p := ⟨b, off + i * 5 + 4, none⟩) hb).trans e4
      have hbw : b < wr.heap.size := by have := hbel.size; omega
      obtain ⟨xlo, xhi, xsh, xver, xju⟩ := x
      simp only at g0 g1 g2 g3 g4
      have HBA := Lib.hid (HB.out.alloc HB.out.size (Obj.cells #[.string xlo, .string xhi, .int .i64 xsh, .int .i64 xver, .bool xju] 80))
      have HKA := Lib.hid (HK.out.alloc (Obj.cells #[.string xlo, .string xhi, .int .i64 xsh, .int .i64 xver, .bool xju] 80))
      clear hx e0 e1 e2 e3 e4 hbel hblk
      by_cases ha : xsh < 0
      · have HF : Hid (routE R = 1) := by rw [Hid, HV2.out, if_pos (by rw [HA.out, HX.out]; unfold badC; rw [decide_eq_true ha]; simp)]
        go_wp2_with fail
        go_ret
        exact ⟨by rw [HF.out]; rfl, HBA.out⟩
      by_cases hb8 : 8 ≤ xsh
      · have HF : Hid (routE R = 1) := by rw [Hid, HV2.out, if_pos (by rw [HA.out, HX.out]; unfold badC; rw [decide_eq_true hb8, Bool.or_true]; rfl)]
        go_wp2_with fail
        go_ret
        exact ⟨by rw [HF.out]; rfl, HBA.out⟩
      by_cases hc1 : xver < 1
      · have HF : Hid (routE R = 1) := by rw [Hid, HV2.out, if_pos (by rw [HA.out, HX.out]; unfold badC; rw [decide_eq_true hc1, Bool.or_true]; rfl)]
        go_wp2_with fail
        go_ret
        exact ⟨by rw [HF.out]; rfl, HBA.out⟩
      by_cases hd : R.ver < xver
      · have HF : Hid (routE R = 1) := by rw [Hid, HV2.out, if_pos (by rw [HA.out, HX.out]; unfold badC; rw [decide_eq_true hd, Bool.or_true]; rfl)]
        go_wp2_with fail
        go_ret
        exact ⟨by rw [HF.out]; rfl, HBA.out⟩
      have HN : Hid (R.cs.any (badC R.ver) = (R.cs.drop (i + 1)).any (badC R.ver)) := by
        rw [Hid, HA.out, HX.out]
        unfold badC
        rw [decide_eq_false ha, decide_eq_false hb8, decide_eq_false hc1, decide_eq_false hd]
        rfl
      go_wp2_with fail
      go_roundw
      case rel => exact ⟨i + 1, by omega, by go_num, HN.out, HKA.out, HBA.out⟩
      case measure => simp [intOf]; omega
    · have HN : Hid (routE R = if endsB R.cs = false then 4 else if linkB R.cs = false then 4 else 0) := by
        rw [Hid, HV2.out, if_neg]
        rw [HA.out, List.drop_of_length_le (by rw [← hn.out]; omega)]
        simp
      clear hbel hblk HV2 HA
      obtain rfl : i = cn := by omega
      by_cases hz : i = 0
      · have HF : Hid (routE R = 4) := by
          have : R.cs = [] := List.eq_nil_of_length_eq_zero (by rw [← hn.out]; exact hz)
          rw [Hid, HN.out, if_pos (by rw [this]; rfl)]
        subst hz
        go_wp2_with fail
        go_ret
        exact ⟨by rw [HF.out]; rfl, HB.out⟩
      have hz0 : ((i : Int) == 0) = false := by simp; omega
      have hzi : (0 : Int) < (i : Int) := by omega
      obtain ⟨b, off, x, hA, hb, hx, e0, _, _, _, _⟩ := H.out.cs.sr.at5 (i := 0) (by show 0 < i; omega)
      simp only at hA
      subst hA
      have HX0 := Lib.hid hx
      have g0 := (HB.out.cell (p := ⟨b, off + 0 * 5, none⟩) hb).trans e0
      simp only [Nat.zero_mul, Nat.add_zero] at g0
      cases hlo : (x.lo.toList == [])
      · have HF : Hid (routE R = 4) := by
          rw [Hid, HN.out, if_pos]
          obtain ⟨c, r, hcr⟩ : ∃ c r, R.cs = c :: r := by
            cases hc : R.cs with
            | nil => rw [hc] at hx; cases hx
            | cons c r => exact ⟨c, r, rfl⟩
          rw [hcr] at hx ⊢
          simp at hx
          subst hx
          rw [endsB, hlo]
          rfl
        clear hx e0
        go_wp2_with fail
        go_ret
        exact ⟨by rw [HF.out]; rfl, HB.out⟩
      obtain ⟨b', off', y, hA, _, hy, _, e1, _, _, _⟩ := H.out.cs.sr.at5 (i := i - 1) (by show i - 1 < i; omega)
      simp only at hA
      injection hA with hA
      injection hA with hA1 hA2
      subst hA1 hA2
      have HY0 := Lib.hid hy
      have g1 := (HB.out.cell (p := ⟨b, off + (i - 1) * 5 + 1, none⟩) hb).trans e1
      have hw1 : IntKind.i64.wrap ((i : Int) - 1) = (i : Int) - 1 := by rw [IntKind.wrap_i64]; omega
      have hi1 : (0 : Int) ≤ (i : Int) - 1 := by omega
      have hi2 : (i : Int) - 1 < (i : Int) := by omega
      have hi3 : ((i : Int) - 1).toNat = i - 1 := by omega
      have HEN : Hid (endsB R.cs = (y.hi.toList == [])) := by
        obtain ⟨c, r, hcr⟩ : ∃ c r, R.cs = c :: r := by
          cases hc : R.cs with
          | nil => rw [hc] at hx; cases hx
          | cons c r => exact ⟨c, r, rfl⟩
        have hl := hn.out
        rw [hcr] at hx hy hl ⊢
        simp at hx
        subst hx
        have hyl : (c :: r).getLast? = some y := by rw [List.getLast?_eq_getElem?, ← hy, hl]
        rw [Hid, endsB, hlo, hyl]
        simp
      clear hx hy e0 e1
      cases hhi : (y.hi.toList == [])
      · have HF : Hid (routE R = 4) := by rw [Hid, HN.out, if_pos (by rw [HEN.out, hhi])]
        go_wp2_with fail
        go_ret
        exact ⟨by rw [HF.out]; rfl, HB.out⟩
      have HL : Hid (routE R = if linkB R.cs = false then 4 else 0) := by rw [Hid, HN.out, if_neg (by rw [HEN.out, hhi]; simp)]
      clear HN HEN
      have hl1 : Hid (linkB R.cs = linkB (R.cs.drop 0)) := rfl
      by_cases hn1 : i = 1
      · have HF : Hid (routE R = 0) := by
          rw [Hid, HL.out, if_neg]
          obtain ⟨c, hc⟩ : ∃ c, R.cs = [c] := by
            have := hn.out
            rw [hn1] at this
            match hcs : R.cs, this with
            | [c], _ => exact ⟨c, rfl⟩
          rw [hc]
          simp [linkB]
        subst hn1
        go_wp2_with fail
        all_goals
          go_loopw [6] (fun v wr => v = .int .i64 1 ∧ Blk wr w.heap.size 27 (rarr ⟨KA, kn, kc, some ⟨b, off, none⟩, 1, cc⟩ R) ∧ Below w.heap.size w wr) (fun _ _ => 0)
          case atStart => exact ⟨rfl, HK.out, HB.out⟩
          case round =>
            obtain ⟨rfl, hblk, hbel⟩ := hrel
            obtain ⟨q0, q1, q2, q3, q4, q5, qz⟩ := blk_ro hblk
            simp only at q1 q5
            go_wp2_with fail
            go_ret
            exact ⟨by rw [HF.out]; rfl, hbel⟩
      have hi22 : 2 ≤ i := by omega
      have hcc1 : (cc = 1) = False := by simp; have := HLC.out; omega
      have hcc2 : (1 : Int) ≤ (i : Int) := by omega
      go_wp2_with fail
      clear q0 q1 q2 q3 q4 q5 qz hlo hhi g0 g1 hw1 hi1 hi2 hi3
      obtain ⟨wo, hwo⟩ : ∃ wo : World, wo = wr := ⟨_, rfl⟩
      rw [← hwo] at HB HK ⊢
      clear hwo
      go_loopw [6] (fun v wr => ∃ j : Nat, j + 1 ≤ i ∧ v = .int .i64 ((j : Int) + 1) ∧ linkB R.cs = linkB (R.cs.drop j) ∧ Blk wr w.heap.size 27 (rarr ⟨KA, kn, kc, some ⟨b, off, none⟩, i, cc⟩ R) ∧ Below w.heap.size w wr) (fun v _ => i - (intOf v).toNat)
      case atStart => exact ⟨0, by omega, rfl, rfl, HK.out, HB.out⟩
      case round =>
        obtain ⟨j, hj, rfl, hlk, hblk, hbel⟩ := hrel
        have HLK := Lib.hid hlk
        have HB2 := Lib.hid hbel
        have HK2 := Lib.hid hblk
        clear hlk
        obtain ⟨q0, q1, q2, q3, q4, q5, qz⟩ := blk_ro hblk
        simp only at q1 q5
        have hNl := hblk.lt
        by_cases hjl : j + 1 < i
        · obtain ⟨b1, off1, x, hA, hbb, hx, e0, e1, _, _, _⟩ := H.out.cs.sr.at5 (i := j) (by show j < i; omega)
          simp only at hA
          injection hA with hA
          injection hA with hA1 hA2
          subst hA1 hA2
          obtain ⟨b1, off1, y, hA, _, hy, f0, f1, f2, f3, f4⟩ := H.out.cs.sr.at5 (i := j + 1) hjl
          simp only at hA
          injection hA with hA
          injection hA with hA1 hA2
          subst hA1 hA2
          have HX := Lib.hid (linkB_at hx hy)
          replace e0 := (hbel.cell (p := ⟨b, off + j * 5, none⟩) hbb).trans e0
          replace e1 := (hbel.cell (p := ⟨b, off + j * 5 + 1, none⟩) hbb).trans e1
          replace f0 := (hbel.cell (p := ⟨b, off + (j + 1) * 5, none⟩) hbb).trans f0
          clear f1 f2 f3 f4
          have hbw : b < wr.heap.size := by have := hbel.size; omega
          obtain ⟨xlo, xhi, xsh, xver, xju⟩ := x
          obtain ⟨ylo, yhi, ysh, yver, yju⟩ := y
          simp only at e0 e1 f0
          simp only at HX
          have j0 : (0 : Int) ≤ (j : Int) := by omega
          have j1 : (j : Int) < (i : Int) := by omega
          have j2 : (j : Int) + 1 < (i : Int) := by omega
          have j3 : ((j : Int) + 1).toNat = j + 1 := by omega
          have j4 : (0 : Int) ≤ (j : Int) + 1 := by omega
          have j5 : IntKind.i64.wrap ((j : Int) + 1 - 1) = (j : Int) := by rw [IntKind.wrap_i64]; omega
          have j6 : IntKind.i64.wrap (j : Int) = (j : Int) := by rw [IntKind.wrap_i64]; omega
          have j7 : (j : Int) < (i : Int) - 1 := by omega
          clear hx hy hbel hblk
          go_upto_region 21 with fail
          have X0 : ∀ kk : BW wr, kk.val.cell? ⟨w.heap.size, 5, none⟩ = some (.slice (some ⟨b, off, none⟩) i cc) := fun kk => kk.cell (blk_ro HK2.out).2.2.2.2.2.1
          have X1 : ∀ kk : BW wr, kk.val.cell? ⟨b, off + (j + 1) * 5, none⟩ = some (.string ylo) := fun kk => kk.cell f0
          have X2 : ∀ kk : BW wr, kk.val.cell? ⟨b, off + j * 5, none⟩ = some (.string xlo) := fun kk => kk.cell e0
          have X3 : ∀ kk : BW wr, kk.val.cell? ⟨b, off + j * 5 + 1, none⟩ = some (.string xhi) := fun kk => kk.cell e1
          clear q0 q1 q2 q3 q4 q5 qz e0 e1 f0
          cases hq : (ylo.toList == xhi.toList)
          rotate_left
          cases hr : Op.bytesLess ylo.toList xlo.toList
          cases hs : (ylo.toList == xlo.toList)
          all_goals
            refine wp_region_bw (by kernel_rfl) (by kernel_rfl) ?_
            repeat (go_big_quiet_step (fail))
            refine wpQuiet_nil ?_
            rintro _ ⟨kw, rfl⟩
            have HKW := Lib.hid kw.below
            generalize kw.val = w5 at *
            clear X0 X1 X2 X3
          rotate_left
          case' false | true.true | true.false.true =>
            have HF : Hid (routE R = 4) := by rw [Hid, HL.out, if_pos (by rw [HLK.out, HX.out]; first | (rw [hq, hr, hs]; rfl) | (rw [hq, hr]; rfl) | (rw [hq]; rfl))]
            go_wp2_with fail
            go_ret
            exact ⟨by rw [HF.out]; rfl, HB2.out.step' HKW.out⟩
          all_goals
            have HF : Hid (linkB R.cs = linkB (R.cs.drop (j + 1))) := by rw [Hid, HLK.out, HX.out, hq, hr, hs]; rfl
            go_wp2_with fail
            go_roundw
            case rel => exact ⟨j + 1, by omega, by go_num, HF.out, HK2.out.step HKW.out, HB2.out.step' HKW.out⟩
            case measure => simp [intOf]; omega
        · have HF : Hid (routE R = 0) := by
            rw [Hid, HL.out, if_neg]
            rw [HLK.out]
            obtain ⟨c, hc⟩ : ∃ c, R.cs.drop j = [c] := by
              have hl := List.length_drop (l := R.cs) (i := j)
              rw [← hn.out] at hl
              match hcs : R.cs.drop j, (show (R.cs.drop j).length = 1 by omega) with
              | [c], _ => exact ⟨c, rfl⟩
            rw [hc]
            simp [linkB]
          clear hbel hblk
          have j8 : ¬ (j : Int) < (i : Int) - 1 := by omega
          have j9 : ¬ (j : Int) + 1 < (i : Int) := by omega
          go_wp2_with fail
          go_ret
          exact ⟨by rw [HF.out]; rfl, HB2.out⟩

end Go.Proofs.YtlmmgjgkmbmgpaaGreatDoor


