/- The walk of the law ValueOwn. (Printed by gen_own.py.) -/
import Derived.Test.YtckeccfbadlhhaaDoorValOwnPure
import Derived.Test.YtckeccfbadlhhaaDoorValFieldsWalk
import Derived.Test.YtckeccfbadlhhaaDoorValSort
import Derived.Test.YtckeccfbadlhhaaDoorValPartsWalk
namespace Go.Proofs.YtckeccfbadlhhaaDoor
open Go.RowKit

theorem alloc_new {w2 W : World} (B : Below w2.heap.size w2 W) (cs : Array Value) (t : TypeId) : Below w2.heap.size w2 (W.alloc (Obj.cells cs t)) ∧ Blk (W.alloc (Obj.cells cs t)) W.heap.size t cs := ⟨B.alloc B.size _, Blk.new_at rfl⟩

theorem sl_list' {w : World} {g n : Nat} {ps : List PV} (h : Blk w g 25 (flat recV ps).toArray) (hn : n = ps.length) (hz : n * 80 ≤ reach) (hok : ∀ p ∈ ps, RW w p.1 p.2) : SL (fun _ => True) w (some ⟨g, 0, none⟩) n n ps := by
  refine ⟨⟨hn, Nat.le_refl _, fun _ => ⟨g, 0, rfl, h.lt, fun i a hi j v hj => ?_⟩⟩, hz, fun _ => ⟨_, _, rfl, Ft.top⟩, hok⟩
  rw [Nat.zero_add, h.cell, List.getElem?_toArray]
  exact flat_get recV_length hi hj
set_option linter.unusedSimpArgs false
set_option maxRecDepth 100000 in
set_option maxHeartbeats 8000000 in
theorem valueOwn_walk (c : VC) (x : Val) (name : ByteArray) (e : VC) (v : Val) (w : World) (hT : Tabs w) (h : RW w c x) (hd : x.d.length * 96 ≤ reach0) (hn0 : name.size ≤ reach0) (he : RW w e v) :
    Calls Tryd.prog 10 #[c.val, .string name, e.val] w fun e w' => e = .returned (.bool true) ∧ Below w.heap.size w w' := by
  have hn : name.size ≤ reach := Nat.le_trans hn0 le_reach
  have hbig : (x.d.length + 1) * 96 ≤ reach := by unfold reach0 at hd; unfold reach; omega
  have HT := Lib.hid hT
  have H := Lib.hid h
  have HE := Lib.hid he
  have HN := Lib.hid hn
  have HBg := Lib.hid hbig
  clear h hT he hn hbig hd hn0
  have A2 := Lib.hid (((Below.refl w.heap.size w).alloc (Nat.le_refl _) (Obj.cells c.arr 25)).alloc (by simp) (Obj.cells e.arr 25))
  have B0 : Hid (Blk ((w.alloc (Obj.cells c.arr 25)).alloc (Obj.cells e.arr 25)) w.heap.size 25 c.arr) := (Blk.new_at rfl).alloc _
  have B1 : Hid (Blk ((w.alloc (Obj.cells c.arr 25)).alloc (Obj.cells e.arr 25)) (w.heap.size + 1) 25 e.arr) := Blk.new_at (by simp)
  go_enter Tryd.func10, Tryd.ntmps10
  go_wp2_with fail
  refine (valid_any x c _ (HT.out.step A2.out) (H.out.step A2.out)).mono ?_
  rintro e1 w1 ⟨rfl, hb1⟩
  have Z1 := Lib.hid (A2.out.step' hb1)
  have I1 : Hid (Blk w1 w.heap.size 25 c.arr ∧ Blk w1 (w.heap.size + 1) 25 e.arr) := Lib.hid ⟨B0.out.step hb1, B1.out.step hb1⟩
  clear hb1 A2 B0 B1
  cases hvx : validV x
  · clear hvx
    go_wp2_with fail
    refine (awake_any _ (HT.out.step Z1.out)).mono ?_
    rintro e9 w9 ⟨rfl, hb9⟩
    go_wp2_with fail
    go_ret
    exact ⟨rfl, Z1.out.step' hb9⟩
  clear hvx
  obtain ⟨a0, a1, a2, a3, a4⟩ := VAt.of_blk I1.out.2
  go_wp2_with fail
  refine (valid_any v e _ (HT.out.step Z1.out) (HE.out.step Z1.out)).mono ?_
  rintro e1 w2 ⟨rfl, hb2⟩
  have Z2 := Lib.hid (Z1.out.step' hb2)
  have I2 : Hid (Blk w2 w.heap.size 25 c.arr ∧ Blk w2 (w.heap.size + 1) 25 e.arr ∧ Below w.heap.size w w2) := Lib.hid ⟨I1.out.1.step hb2, I1.out.2.step hb2, Z2.out⟩
  clear hb2 I1 Z1 a0 a1 a2 a3 a4
  cases hvv : validV v
  · clear hvv
    go_wp2_with fail
    refine (awake_any _ (HT.out.step Z2.out)).mono ?_
    rintro e9 w9 ⟨rfl, hb9⟩
    go_wp2_with fail
    go_ret
    exact ⟨rfl, Z2.out.step' hb9⟩
  clear hvv
  have H2 := Lib.hid (H.out.step Z2.out)
  have E2 := Lib.hid (HE.out.step Z2.out)
  go_upto_region 3 with fail
  go_cut [7, 8] (fun v7 v8 wx => ∃ (g7 g8 : Nat) (cc cw : VC), v7 = .pointer (some ⟨g7, 0, none⟩) ∧ v8 = .pointer (some ⟨g8, 0, none⟩) ∧ OwI w c e cc cw x v g7 g8 wx.heap.size wx)
  case first =>
    obtain ⟨a0, a1, a2, a3, a4⟩ := VAt.of_blk I2.out.1
    obtain ⟨b0, b1, b2, b3, b4⟩ := VAt.of_blk I2.out.2.1
    have KC : Hid (∀ w' : World, (∀ g, g < w2.heap.size → w'.heap[g]? = w2.heap[g]?) → w'.cell? ⟨w.heap.size, 0, none⟩ = some (.int .i64 c.k) ∧ w'.cell? ⟨w.heap.size, 1, none⟩ = some (.int .i64 c.n) ∧ w'.cell? ⟨w.heap.size, 2, none⟩ = some (.string c.t) ∧ w'.cell? ⟨w.heap.size, 3, none⟩ = some (.slice c.LA c.ln c.lc) ∧ w'.cell? ⟨w.heap.size, 4, none⟩ = some (.slice c.DA c.dn c.dc) ∧ w'.cell? ⟨w.heap.size + 1, 0, none⟩ = some (.int .i64 e.k) ∧ w'.cell? ⟨w.heap.size + 1, 1, none⟩ = some (.int .i64 e.n) ∧ w'.cell? ⟨w.heap.size + 1, 2, none⟩ = some (.string e.t) ∧ w'.cell? ⟨w.heap.size + 1, 3, none⟩ = some (.slice e.LA e.ln e.lc) ∧ w'.cell? ⟨w.heap.size + 1, 4, none⟩ = some (.slice e.DA e.dn e.dc)) := fun w' hk => by
      have e0 : ∀ o, w'.cell? ⟨w.heap.size, o, none⟩ = w2.cell? ⟨w.heap.size, o, none⟩ := fun o => World.cell?_of_block (w := w2) (a := ⟨w.heap.size, o, none⟩) (hk _ I2.out.1.lt)
      have e1 : ∀ o, w'.cell? ⟨w.heap.size + 1, o, none⟩ = w2.cell? ⟨w.heap.size + 1, o, none⟩ := fun o => World.cell?_of_block (w := w2) (a := ⟨w.heap.size + 1, o, none⟩) (hk _ I2.out.2.1.lt)
      exact ⟨(e0 _).trans a0, (e0 _).trans a1, (e0 _).trans a2, (e0 _).trans a3, (e0 _).trans a4, (e1 _).trans b0, (e1 _).trans b1, (e1 _).trans b2, (e1 _).trans b3, (e1 _).trans b4⟩
    clear a0 a1 a2 a3 a4 b0 b1 b2 b3 b4
    refine wp_region_noPanic ?_
    refine wp_region_held_drew (S := (fun w' => w'.cell? ⟨w.heap.size, 0, none⟩ = some (.int .i64 c.k) ∧ w'.cell? ⟨w.heap.size, 1, none⟩ = some (.int .i64 c.n) ∧ w'.cell? ⟨w.heap.size, 2, none⟩ = some (.string c.t) ∧ w'.cell? ⟨w.heap.size, 3, none⟩ = some (.slice c.LA c.ln c.lc) ∧ w'.cell? ⟨w.heap.size, 4, none⟩ = some (.slice c.DA c.dn c.dc) ∧ w'.cell? ⟨w.heap.size + 1, 0, none⟩ = some (.int .i64 e.k) ∧ w'.cell? ⟨w.heap.size + 1, 1, none⟩ = some (.int .i64 e.n) ∧ w'.cell? ⟨w.heap.size + 1, 2, none⟩ = some (.string e.t) ∧ w'.cell? ⟨w.heap.size + 1, 3, none⟩ = some (.slice e.LA e.ln e.lc) ∧ w'.cell? ⟨w.heap.size + 1, 4, none⟩ = some (.slice e.DA e.dn e.dc))) (by kernel_rfl) ?_ (fun hHeld => ?_)
    · (try dsimp only); exact KC.out _ (fun g hg => rfl)
    have B : Hid (Below w2.heap.size w2 w2.drew) := Lib.hid ((Below.refl w2.heap.size w2).drew)
    generalize w2.drew = W0 at *
    refine wpAnyH_take (i := 0) (v := ?_) (take_at rfl) (by kernel_rfl) (by kernel_rfl) (by kernel_rfl) (fun _ _ _ h => h) (Or.inl ⟨by rfl, ?_⟩) (by assumption) ?_
    rotate_left
    · intro w' hSw; (try dsimp only at hSw); go_simp; (try with_reducible rfl)
    (try simp only [Act.put, List.setIfInBounds_toArray, List.set_cons_zero, List.set_cons_succ])
    refine wpAnyH_take (i := 2) (v := ?_) (take_at rfl) (by kernel_rfl) (by kernel_rfl) (by kernel_rfl) (fun _ _ _ h => h) (Or.inl ⟨by rfl, ?_⟩) (by assumption) ?_
    rotate_left
    · intro w' hSw; (try dsimp only at hSw); go_simp; (try with_reducible rfl)
    (try simp only [Act.put, List.setIfInBounds_toArray, List.set_cons_zero, List.set_cons_succ])
    refine wpAnyH_ready (rs := [1, 4, 5]) (by kernel_rfl) (by simp) ?_
    refine AllReadyH.cons (take_at rfl) (fun K hK => ?_) (AllReadyH.cons (take_at rfl) (fun K hK => ?_) (AllReadyH.cons (take_at rfl) (fun K hK => ?_) AllReadyH.nil))
    · go_simp
      refine (rcopy_any x c _ (H2.out.step B.out)).mono ?_
      rintro e3 W1 ⟨cc, rfl, hr, hb⟩
      have RC := Lib.hid hr.lt
      have sz0 : W0.heap.size ≤ W1.heap.size := hb.size
      replace B := Lib.hid (B.out.step' hb)
      clear hb hr
      (try go_wp2_with fail)
      refine hK.out _ _ ?_ (fun hHeld2 => ?_)
      · (try dsimp only); exact KC.out _ (fun g hg => B.out.block g hg)
      clear hK K hHeld
      have hHeld := hHeld2
      clear hHeld2
      (try simp only [Act.put, List.setIfInBounds_toArray, List.set_cons_zero, List.set_cons_succ])
      refine wpAnyH_ready (rs := [3, 4, 5]) (by kernel_rfl) (by simp) ?_
      refine AllReadyH.cons (take_at rfl) (fun K hK => ?_) (AllReadyH.cons (take_at rfl) (fun K hK => ?_) (AllReadyH.cons (take_at rfl) (fun K hK => ?_) AllReadyH.nil))
      · go_simp
        refine (rcopy_any v e _ (E2.out.step B.out)).mono ?_
        rintro e3 W2 ⟨cw, rfl, hr, hb⟩
        have RE := Lib.hid hr.lt
        have sz1 : W1.heap.size ≤ W2.heap.size := hb.size
        replace RC := Lib.hid (RC.out.step hb)
        replace B := Lib.hid (B.out.step' hb)
        clear hb hr
        (try go_wp2_with fail)
        refine hK.out _ _ ?_ (fun hHeld2 => ?_)
        · (try dsimp only); exact KC.out _ (fun g hg => B.out.block g hg)
        clear hK K hHeld
        have hHeld := hHeld2
        clear hHeld2
        (try simp only [Act.put, List.setIfInBounds_toArray, List.set_cons_zero, List.set_cons_succ])
        refine wpAnyH_ready (rs := [4, 5]) (by kernel_rfl) (by simp) ?_
        refine AllReadyH.cons (take_at rfl) (fun K hK => ?_) (AllReadyH.cons (take_at rfl) (fun K hK => ?_) AllReadyH.nil)
        · go_simp
          have hz7 : w2.heap.size ≤ W2.heap.size := B.out.size
          have NB := Lib.hid (alloc_new B.out VC.zero.arr 25)
          replace RC := Lib.hid (RC.out.alloc (Obj.cells VC.zero.arr 25))
          replace RE := Lib.hid (RE.out.alloc (Obj.cells VC.zero.arr 25))
          have sz2 : W2.heap.size < (W2.alloc (Obj.cells VC.zero.arr 25)).heap.size := by simp
          change K _ (W2.alloc (Obj.cells VC.zero.arr 25))
          generalize W2.alloc (Obj.cells VC.zero.arr 25) = W3 at *
          have Q7 := Lib.hid NB.out.2
          replace B := Lib.hid NB.out.1
          clear NB
          refine hK.out _ _ ?_ (fun hHeld2 => ?_)
          · (try dsimp only); exact KC.out _ (fun g hg => B.out.block g hg)
          clear hK K hHeld
          have hHeld := hHeld2
          clear hHeld2
          (try simp only [Act.put, List.setIfInBounds_toArray, List.set_cons_zero, List.set_cons_succ])
          refine wpAnyH_ready (rs := [5]) (by kernel_rfl) (by simp) ?_
          refine AllReadyH.cons (take_at rfl) (fun K hK => ?_) AllReadyH.nil
          · go_simp
            have hz8 : w2.heap.size ≤ W3.heap.size := B.out.size
            have NB := Lib.hid (alloc_new B.out VC.zero.arr 25)
            replace RC := Lib.hid (RC.out.alloc (Obj.cells VC.zero.arr 25))
            replace RE := Lib.hid (RE.out.alloc (Obj.cells VC.zero.arr 25))
            replace Q7 := Lib.hid (Q7.out.alloc (Obj.cells VC.zero.arr 25))
            have sz3 : W3.heap.size < (W3.alloc (Obj.cells VC.zero.arr 25)).heap.size := by simp
            change K _ (W3.alloc (Obj.cells VC.zero.arr 25))
            generalize W3.alloc (Obj.cells VC.zero.arr 25) = W4 at *
            have Q8 := Lib.hid NB.out.2
            replace B := Lib.hid NB.out.1
            clear NB
            refine hK.out _ _ ?_ (fun hHeld2 => ?_)
            · (try dsimp only); exact KC.out _ (fun g hg => B.out.block g hg)
            clear hK K hHeld
            have hHeld := hHeld2
            clear hHeld2
            (try simp only [Act.put, List.setIfInBounds_toArray, List.set_cons_zero, List.set_cons_succ])
            refine wpAnyH_ready (rs := [6]) (by kernel_rfl) (by simp) ?_
            refine AllReadyH.cons (take_at rfl) (fun K hK => ?_) AllReadyH.nil
            have hl7 := Q7.out.lt
            have hl8 := Q8.out.lt
            have h78 : W2.heap.size ≠ W3.heap.size := by omega
            obtain ⟨p0, p1, p2, p3, p4⟩ := VAt.of_blk Q7.out
            have zf := Q7.out.frozen
            go_simp
            have Q7' := Lib.hid (Q7.out.putV cc)
            have Q8' := Lib.hid (Q8.out.farV (b := W2.heap.size) (by omega) 0 cc)
            have RC' := Lib.hid (RC.out.keep (w' := setV W4 (W2.heap.size) 0 cc) fun b hb => heap_setV (by omega))
            have RE' := Lib.hid (RE.out.keep (w' := setV W4 (W2.heap.size) 0 cc) fun b hb => heap_setV (by omega))
            have B' := Lib.hid (below_setV B.out (b := W2.heap.size) (by omega) 0 cc)
            change K _ (setV W4 (W2.heap.size) 0 cc)
            generalize setV W4 (W2.heap.size) 0 cc = W5 at *
            clear p0 p1 p2 p3 p4 zf Q7 Q8 RC RE B
            have Q7 := Q7'
            have Q8 := Q8'
            have RC := RC'
            have RE := RE'
            have B := B'
            clear Q7' Q8' RC' RE' B'
            refine hK.out _ _ ?_ (fun hHeld2 => ?_)
            · (try dsimp only); exact KC.out _ (fun g hg => B.out.block g hg)
            clear hK K hHeld
            have hHeld := hHeld2
            clear hHeld2
            (try simp only [Act.put, List.setIfInBounds_toArray, List.set_cons_zero, List.set_cons_succ])
            refine wpAnyH_ready (rs := [7]) (by kernel_rfl) (by simp) ?_
            refine AllReadyH.cons (take_at rfl) (fun K hK => ?_) AllReadyH.nil
            obtain ⟨p0, p1, p2, p3, p4⟩ := VAt.of_blk Q8.out
            have zf := Q8.out.frozen
            go_simp
            have Q8' := Lib.hid (Q8.out.putV cw)
            have Q7' := Lib.hid (Q7.out.farV (b := W3.heap.size) (by omega) 0 cw)
            have RC' := Lib.hid (RC.out.keep (w' := setV W5 (W3.heap.size) 0 cw) fun b hb => heap_setV (by omega))
            have RE' := Lib.hid (RE.out.keep (w' := setV W5 (W3.heap.size) 0 cw) fun b hb => heap_setV (by omega))
            have B' := Lib.hid (below_setV B.out (b := W3.heap.size) (by omega) 0 cw)
            change K _ (setV W5 (W3.heap.size) 0 cw)
            generalize setV W5 (W3.heap.size) 0 cw = W6 at *
            clear p0 p1 p2 p3 p4 zf Q7 Q8 RC RE B
            have Q7 := Q7'
            have Q8 := Q8'
            have RC := RC'
            have RE := RE'
            have B := B'
            clear Q7' Q8' RC' RE' B'
            refine hK.out _ _ ?_ (fun hHeld2 => ?_)
            · (try dsimp only); exact KC.out _ (fun g hg => B.out.block g hg)
            clear hK K hHeld
            have hHeld := hHeld2
            clear hHeld2
            (try simp only [Act.put, List.setIfInBounds_toArray, List.set_cons_zero, List.set_cons_succ])
            refine wpAnyH_done (by kernel_rfl) ?_ _
            refine NoPanic.normal ?_
            go_wp2_with fail
            go_meet
            have l7 := Q7.out.lt
            have l8 := Q8.out.lt
            have lb := B.out.size
            have l1 := I2.out.2.1.lt
            exact ⟨W2.heap.size, W3.heap.size, cc, cw, rfl, rfl, ⟨I2.out.1.step B.out, I2.out.2.1.step B.out, Q7.out, Q8.out, l7, l8, by omega, RC.out.lt.mono fun b hb => hb.2, RE.out.lt.mono fun b hb => hb.2, I2.out.2.2.step' B.out⟩⟩
        · go_simp
          have hz8 : w2.heap.size ≤ W2.heap.size := B.out.size
          have NB := Lib.hid (alloc_new B.out VC.zero.arr 25)
          replace RC := Lib.hid (RC.out.alloc (Obj.cells VC.zero.arr 25))
          replace RE := Lib.hid (RE.out.alloc (Obj.cells VC.zero.arr 25))
          have sz2 : W2.heap.size < (W2.alloc (Obj.cells VC.zero.arr 25)).heap.size := by simp
          change K _ (W2.alloc (Obj.cells VC.zero.arr 25))
          generalize W2.alloc (Obj.cells VC.zero.arr 25) = W3 at *
          have Q8 := Lib.hid NB.out.2
          replace B := Lib.hid NB.out.1
          clear NB
          refine hK.out _ _ ?_ (fun hHeld2 => ?_)
          · (try dsimp only); exact KC.out _ (fun g hg => B.out.block g hg)
          clear hK K hHeld
          have hHeld := hHeld2
          clear hHeld2
          (try simp only [Act.put, List.setIfInBounds_toArray, List.set_cons_zero, List.set_cons_succ])
          refine wpAnyH_ready (rs := [4]) (by kernel_rfl) (by simp) ?_
          refine AllReadyH.cons (take_at rfl) (fun K hK => ?_) AllReadyH.nil
          · go_simp
            have hz7 : w2.heap.size ≤ W3.heap.size := B.out.size
            have NB := Lib.hid (alloc_new B.out VC.zero.arr 25)
            replace RC := Lib.hid (RC.out.alloc (Obj.cells VC.zero.arr 25))
            replace RE := Lib.hid (RE.out.alloc (Obj.cells VC.zero.arr 25))
            replace Q8 := Lib.hid (Q8.out.alloc (Obj.cells VC.zero.arr 25))
            have sz3 : W3.heap.size < (W3.alloc (Obj.cells VC.zero.arr 25)).heap.size := by simp
            change K _ (W3.alloc (Obj.cells VC.zero.arr 25))
            generalize W3.alloc (Obj.cells VC.zero.arr 25) = W4 at *
            have Q7 := Lib.hid NB.out.2
            replace B := Lib.hid NB.out.1
            clear NB
            refine hK.out _ _ ?_ (fun hHeld2 => ?_)
            · (try dsimp only); exact KC.out _ (fun g hg => B.out.block g hg)
            clear hK K hHeld
            have hHeld := hHeld2
            clear hHeld2
            (try simp only [Act.put, List.setIfInBounds_toArray, List.set_cons_zero, List.set_cons_succ])
            refine wpAnyH_ready (rs := [6]) (by kernel_rfl) (by simp) ?_
            refine AllReadyH.cons (take_at rfl) (fun K hK => ?_) AllReadyH.nil
            have hl7 := Q7.out.lt
            have hl8 := Q8.out.lt
            have h78 : W3.heap.size ≠ W2.heap.size := by omega
            obtain ⟨p0, p1, p2, p3, p4⟩ := VAt.of_blk Q7.out
            have zf := Q7.out.frozen
            go_simp
            have Q7' := Lib.hid (Q7.out.putV cc)
            have Q8' := Lib.hid (Q8.out.farV (b := W3.heap.size) (by omega) 0 cc)
            have RC' := Lib.hid (RC.out.keep (w' := setV W4 (W3.heap.size) 0 cc) fun b hb => heap_setV (by omega))
            have RE' := Lib.hid (RE.out.keep (w' := setV W4 (W3.heap.size) 0 cc) fun b hb => heap_setV (by omega))
            have B' := Lib.hid (below_setV B.out (b := W3.heap.size) (by omega) 0 cc)
            change K _ (setV W4 (W3.heap.size) 0 cc)
            generalize setV W4 (W3.heap.size) 0 cc = W5 at *
            clear p0 p1 p2 p3 p4 zf Q7 Q8 RC RE B
            have Q7 := Q7'
            have Q8 := Q8'
            have RC := RC'
            have RE := RE'
            have B := B'
            clear Q7' Q8' RC' RE' B'
            refine hK.out _ _ ?_ (fun hHeld2 => ?_)
            · (try dsimp only); exact KC.out _ (fun g hg => B.out.block g hg)
            clear hK K hHeld
            have hHeld := hHeld2
            clear hHeld2
            (try simp only [Act.put, List.setIfInBounds_toArray, List.set_cons_zero, List.set_cons_succ])
            refine wpAnyH_ready (rs := [7]) (by kernel_rfl) (by simp) ?_
            refine AllReadyH.cons (take_at rfl) (fun K hK => ?_) AllReadyH.nil
            obtain ⟨p0, p1, p2, p3, p4⟩ := VAt.of_blk Q8.out
            have zf := Q8.out.frozen
            go_simp
            have Q8' := Lib.hid (Q8.out.putV cw)
            have Q7' := Lib.hid (Q7.out.farV (b := W2.heap.size) (by omega) 0 cw)
            have RC' := Lib.hid (RC.out.keep (w' := setV W5 (W2.heap.size) 0 cw) fun b hb => heap_setV (by omega))
            have RE' := Lib.hid (RE.out.keep (w' := setV W5 (W2.heap.size) 0 cw) fun b hb => heap_setV (by omega))
            have B' := Lib.hid (below_setV B.out (b := W2.heap.size) (by omega) 0 cw)
            change K _ (setV W5 (W2.heap.size) 0 cw)
            generalize setV W5 (W2.heap.size) 0 cw = W6 at *
            clear p0 p1 p2 p3 p4 zf Q7 Q8 RC RE B
            have Q7 := Q7'
            have Q8 := Q8'
            have RC := RC'
            have RE := RE'
            have B := B'
            clear Q7' Q8' RC' RE' B'
            refine hK.out _ _ ?_ (fun hHeld2 => ?_)
            · (try dsimp only); exact KC.out _ (fun g hg => B.out.block g hg)
            clear hK K hHeld
            have hHeld := hHeld2
            clear hHeld2
            (try simp only [Act.put, List.setIfInBounds_toArray, List.set_cons_zero, List.set_cons_succ])
            refine wpAnyH_done (by kernel_rfl) ?_ _
            refine NoPanic.normal ?_
            go_wp2_with fail
            go_meet
            have l7 := Q7.out.lt
            have l8 := Q8.out.lt
            have lb := B.out.size
            have l1 := I2.out.2.1.lt
            exact ⟨W3.heap.size, W2.heap.size, cc, cw, rfl, rfl, ⟨I2.out.1.step B.out, I2.out.2.1.step B.out, Q7.out, Q8.out, l7, l8, by omega, RC.out.lt.mono fun b hb => hb.2, RE.out.lt.mono fun b hb => hb.2, I2.out.2.2.step' B.out⟩⟩
      · go_simp
        have hz7 : w2.heap.size ≤ W1.heap.size := B.out.size
        have NB := Lib.hid (alloc_new B.out VC.zero.arr 25)
        replace RC := Lib.hid (RC.out.alloc (Obj.cells VC.zero.arr 25))
        have sz1 : W1.heap.size < (W1.alloc (Obj.cells VC.zero.arr 25)).heap.size := by simp
        change K _ (W1.alloc (Obj.cells VC.zero.arr 25))
        generalize W1.alloc (Obj.cells VC.zero.arr 25) = W2 at *
        have Q7 := Lib.hid NB.out.2
        replace B := Lib.hid NB.out.1
        clear NB
        refine hK.out _ _ ?_ (fun hHeld2 => ?_)
        · (try dsimp only); exact KC.out _ (fun g hg => B.out.block g hg)
        clear hK K hHeld
        have hHeld := hHeld2
        clear hHeld2
        (try simp only [Act.put, List.setIfInBounds_toArray, List.set_cons_zero, List.set_cons_succ])
        refine wpAnyH_ready (rs := [3, 5]) (by kernel_rfl) (by simp) ?_
        refine AllReadyH.cons (take_at rfl) (fun K hK => ?_) (AllReadyH.cons (take_at rfl) (fun K hK => ?_) AllReadyH.nil)
        · go_simp
          refine (rcopy_any v e _ (E2.out.step B.out)).mono ?_
          rintro e3 W3 ⟨cw, rfl, hr, hb⟩
          have RE := Lib.hid hr.lt
          have sz2 : W2.heap.size ≤ W3.heap.size := hb.size
          replace RC := Lib.hid (RC.out.step hb)
          replace Q7 := Lib.hid (Q7.out.step hb)
          replace B := Lib.hid (B.out.step' hb)
          clear hb hr
          (try go_wp2_with fail)
          refine hK.out _ _ ?_ (fun hHeld2 => ?_)
          · (try dsimp only); exact KC.out _ (fun g hg => B.out.block g hg)
          clear hK K hHeld
          have hHeld := hHeld2
          clear hHeld2
          (try simp only [Act.put, List.setIfInBounds_toArray, List.set_cons_zero, List.set_cons_succ])
          refine wpAnyH_ready (rs := [5]) (by kernel_rfl) (by simp) ?_
          refine AllReadyH.cons (take_at rfl) (fun K hK => ?_) AllReadyH.nil
          · go_simp
            have hz8 : w2.heap.size ≤ W3.heap.size := B.out.size
            have NB := Lib.hid (alloc_new B.out VC.zero.arr 25)
            replace RC := Lib.hid (RC.out.alloc (Obj.cells VC.zero.arr 25))
            replace Q7 := Lib.hid (Q7.out.alloc (Obj.cells VC.zero.arr 25))
            replace RE := Lib.hid (RE.out.alloc (Obj.cells VC.zero.arr 25))
            have sz3 : W3.heap.size < (W3.alloc (Obj.cells VC.zero.arr 25)).heap.size := by simp
            change K _ (W3.alloc (Obj.cells VC.zero.arr 25))
            generalize W3.alloc (Obj.cells VC.zero.arr 25) = W4 at *
            have Q8 := Lib.hid NB.out.2
            replace B := Lib.hid NB.out.1
            clear NB
            refine hK.out _ _ ?_ (fun hHeld2 => ?_)
            · (try dsimp only); exact KC.out _ (fun g hg => B.out.block g hg)
            clear hK K hHeld
            have hHeld := hHeld2
            clear hHeld2
            (try simp only [Act.put, List.setIfInBounds_toArray, List.set_cons_zero, List.set_cons_succ])
            refine wpAnyH_ready (rs := [6]) (by kernel_rfl) (by simp) ?_
            refine AllReadyH.cons (take_at rfl) (fun K hK => ?_) AllReadyH.nil
            have hl7 := Q7.out.lt
            have hl8 := Q8.out.lt
            have h78 : W1.heap.size ≠ W3.heap.size := by omega
            obtain ⟨p0, p1, p2, p3, p4⟩ := VAt.of_blk Q7.out
            have zf := Q7.out.frozen
            go_simp
            have Q7' := Lib.hid (Q7.out.putV cc)
            have Q8' := Lib.hid (Q8.out.farV (b := W1.heap.size) (by omega) 0 cc)
            have RC' := Lib.hid (RC.out.keep (w' := setV W4 (W1.heap.size) 0 cc) fun b hb => heap_setV (by omega))
            have RE' := Lib.hid (RE.out.keep (w' := setV W4 (W1.heap.size) 0 cc) fun b hb => heap_setV (by omega))
            have B' := Lib.hid (below_setV B.out (b := W1.heap.size) (by omega) 0 cc)
            change K _ (setV W4 (W1.heap.size) 0 cc)
            generalize setV W4 (W1.heap.size) 0 cc = W5 at *
            clear p0 p1 p2 p3 p4 zf Q7 Q8 RC RE B
            have Q7 := Q7'
            have Q8 := Q8'
            have RC := RC'
            have RE := RE'
            have B := B'
            clear Q7' Q8' RC' RE' B'
            refine hK.out _ _ ?_ (fun hHeld2 => ?_)
            · (try dsimp only); exact KC.out _ (fun g hg => B.out.block g hg)
            clear hK K hHeld
            have hHeld := hHeld2
            clear hHeld2
            (try simp only [Act.put, List.setIfInBounds_toArray, List.set_cons_zero, List.set_cons_succ])
            refine wpAnyH_ready (rs := [7]) (by kernel_rfl) (by simp) ?_
            refine AllReadyH.cons (take_at rfl) (fun K hK => ?_) AllReadyH.nil
            obtain ⟨p0, p1, p2, p3, p4⟩ := VAt.of_blk Q8.out
            have zf := Q8.out.frozen
            go_simp
            have Q8' := Lib.hid (Q8.out.putV cw)
            have Q7' := Lib.hid (Q7.out.farV (b := W3.heap.size) (by omega) 0 cw)
            have RC' := Lib.hid (RC.out.keep (w' := setV W5 (W3.heap.size) 0 cw) fun b hb => heap_setV (by omega))
            have RE' := Lib.hid (RE.out.keep (w' := setV W5 (W3.heap.size) 0 cw) fun b hb => heap_setV (by omega))
            have B' := Lib.hid (below_setV B.out (b := W3.heap.size) (by omega) 0 cw)
            change K _ (setV W5 (W3.heap.size) 0 cw)
            generalize setV W5 (W3.heap.size) 0 cw = W6 at *
            clear p0 p1 p2 p3 p4 zf Q7 Q8 RC RE B
            have Q7 := Q7'
            have Q8 := Q8'
            have RC := RC'
            have RE := RE'
            have B := B'
            clear Q7' Q8' RC' RE' B'
            refine hK.out _ _ ?_ (fun hHeld2 => ?_)
            · (try dsimp only); exact KC.out _ (fun g hg => B.out.block g hg)
            clear hK K hHeld
            have hHeld := hHeld2
            clear hHeld2
            (try simp only [Act.put, List.setIfInBounds_toArray, List.set_cons_zero, List.set_cons_succ])
            refine wpAnyH_done (by kernel_rfl) ?_ _
            refine NoPanic.normal ?_
            go_wp2_with fail
            go_meet
            have l7 := Q7.out.lt
            have l8 := Q8.out.lt
            have lb := B.out.size
            have l1 := I2.out.2.1.lt
            exact ⟨W1.heap.size, W3.heap.size, cc, cw, rfl, rfl, ⟨I2.out.1.step B.out, I2.out.2.1.step B.out, Q7.out, Q8.out, l7, l8, by omega, RC.out.lt.mono fun b hb => hb.2, RE.out.lt.mono fun b hb => hb.2, I2.out.2.2.step' B.out⟩⟩
        · go_simp
          have hz8 : w2.heap.size ≤ W2.heap.size := B.out.size
          have NB := Lib.hid (alloc_new B.out VC.zero.arr 25)
          replace RC := Lib.hid (RC.out.alloc (Obj.cells VC.zero.arr 25))
          replace Q7 := Lib.hid (Q7.out.alloc (Obj.cells VC.zero.arr 25))
          have sz2 : W2.heap.size < (W2.alloc (Obj.cells VC.zero.arr 25)).heap.size := by simp
          change K _ (W2.alloc (Obj.cells VC.zero.arr 25))
          generalize W2.alloc (Obj.cells VC.zero.arr 25) = W3 at *
          have Q8 := Lib.hid NB.out.2
          replace B := Lib.hid NB.out.1
          clear NB
          refine hK.out _ _ ?_ (fun hHeld2 => ?_)
          · (try dsimp only); exact KC.out _ (fun g hg => B.out.block g hg)
          clear hK K hHeld
          have hHeld := hHeld2
          clear hHeld2
          (try simp only [Act.put, List.setIfInBounds_toArray, List.set_cons_zero, List.set_cons_succ])
          refine wpAnyH_ready (rs := [3]) (by kernel_rfl) (by simp) ?_
          refine AllReadyH.cons (take_at rfl) (fun K hK => ?_) AllReadyH.nil
          · go_simp
            refine (rcopy_any v e _ (E2.out.step B.out)).mono ?_
            rintro e3 W4 ⟨cw, rfl, hr, hb⟩
            have RE := Lib.hid hr.lt
            have sz3 : W3.heap.size ≤ W4.heap.size := hb.size
            replace RC := Lib.hid (RC.out.step hb)
            replace Q7 := Lib.hid (Q7.out.step hb)
            replace Q8 := Lib.hid (Q8.out.step hb)
            replace B := Lib.hid (B.out.step' hb)
            clear hb hr
            (try go_wp2_with fail)
            refine hK.out _ _ ?_ (fun hHeld2 => ?_)
            · (try dsimp only); exact KC.out _ (fun g hg => B.out.block g hg)
            clear hK K hHeld
            have hHeld := hHeld2
            clear hHeld2
            (try simp only [Act.put, List.setIfInBounds_toArray, List.set_cons_zero, List.set_cons_succ])
            refine wpAnyH_ready (rs := [6]) (by kernel_rfl) (by simp) ?_
            refine AllReadyH.cons (take_at rfl) (fun K hK => ?_) AllReadyH.nil
            have hl7 := Q7.out.lt
            have hl8 := Q8.out.lt
            have h78 : W1.heap.size ≠ W2.heap.size := by omega
            obtain ⟨p0, p1, p2, p3, p4⟩ := VAt.of_blk Q7.out
            have zf := Q7.out.frozen
            go_simp
            have Q7' := Lib.hid (Q7.out.putV cc)
            have Q8' := Lib.hid (Q8.out.farV (b := W1.heap.size) (by omega) 0 cc)
            have RC' := Lib.hid (RC.out.keep (w' := setV W4 (W1.heap.size) 0 cc) fun b hb => heap_setV (by omega))
            have RE' := Lib.hid (RE.out.keep (w' := setV W4 (W1.heap.size) 0 cc) fun b hb => heap_setV (by omega))
            have B' := Lib.hid (below_setV B.out (b := W1.heap.size) (by omega) 0 cc)
            change K _ (setV W4 (W1.heap.size) 0 cc)
            generalize setV W4 (W1.heap.size) 0 cc = W5 at *
            clear p0 p1 p2 p3 p4 zf Q7 Q8 RC RE B
            have Q7 := Q7'
            have Q8 := Q8'
            have RC := RC'
            have RE := RE'
            have B := B'
            clear Q7' Q8' RC' RE' B'
            refine hK.out _ _ ?_ (fun hHeld2 => ?_)
            · (try dsimp only); exact KC.out _ (fun g hg => B.out.block g hg)
            clear hK K hHeld
            have hHeld := hHeld2
            clear hHeld2
            (try simp only [Act.put, List.setIfInBounds_toArray, List.set_cons_zero, List.set_cons_succ])
            refine wpAnyH_ready (rs := [7]) (by kernel_rfl) (by simp) ?_
            refine AllReadyH.cons (take_at rfl) (fun K hK => ?_) AllReadyH.nil
            obtain ⟨p0, p1, p2, p3, p4⟩ := VAt.of_blk Q8.out
            have zf := Q8.out.frozen
            go_simp
            have Q8' := Lib.hid (Q8.out.putV cw)
            have Q7' := Lib.hid (Q7.out.farV (b := W2.heap.size) (by omega) 0 cw)
            have RC' := Lib.hid (RC.out.keep (w' := setV W5 (W2.heap.size) 0 cw) fun b hb => heap_setV (by omega))
            have RE' := Lib.hid (RE.out.keep (w' := setV W5 (W2.heap.size) 0 cw) fun b hb => heap_setV (by omega))
            have B' := Lib.hid (below_setV B.out (b := W2.heap.size) (by omega) 0 cw)
            change K _ (setV W5 (W2.heap.size) 0 cw)
            generalize setV W5 (W2.heap.size) 0 cw = W6 at *
            clear p0 p1 p2 p3 p4 zf Q7 Q8 RC RE B
            have Q7 := Q7'
            have Q8 := Q8'
            have RC := RC'
            have RE := RE'
            have B := B'
            clear Q7' Q8' RC' RE' B'
            refine hK.out _ _ ?_ (fun hHeld2 => ?_)
            · (try dsimp only); exact KC.out _ (fun g hg => B.out.block g hg)
            clear hK K hHeld
            have hHeld := hHeld2
            clear hHeld2
            (try simp only [Act.put, List.setIfInBounds_toArray, List.set_cons_zero, List.set_cons_succ])
            refine wpAnyH_done (by kernel_rfl) ?_ _
            refine NoPanic.normal ?_
            go_wp2_with fail
            go_meet
            have l7 := Q7.out.lt
            have l8 := Q8.out.lt
            have lb := B.out.size
            have l1 := I2.out.2.1.lt
            exact ⟨W1.heap.size, W2.heap.size, cc, cw, rfl, rfl, ⟨I2.out.1.step B.out, I2.out.2.1.step B.out, Q7.out, Q8.out, l7, l8, by omega, RC.out.lt.mono fun b hb => hb.2, RE.out.lt.mono fun b hb => hb.2, I2.out.2.2.step' B.out⟩⟩
      · go_simp
        have hz8 : w2.heap.size ≤ W1.heap.size := B.out.size
        have NB := Lib.hid (alloc_new B.out VC.zero.arr 25)
        replace RC := Lib.hid (RC.out.alloc (Obj.cells VC.zero.arr 25))
        have sz1 : W1.heap.size < (W1.alloc (Obj.cells VC.zero.arr 25)).heap.size := by simp
        change K _ (W1.alloc (Obj.cells VC.zero.arr 25))
        generalize W1.alloc (Obj.cells VC.zero.arr 25) = W2 at *
        have Q8 := Lib.hid NB.out.2
        replace B := Lib.hid NB.out.1
        clear NB
        refine hK.out _ _ ?_ (fun hHeld2 => ?_)
        · (try dsimp only); exact KC.out _ (fun g hg => B.out.block g hg)
        clear hK K hHeld
        have hHeld := hHeld2
        clear hHeld2
        (try simp only [Act.put, List.setIfInBounds_toArray, List.set_cons_zero, List.set_cons_succ])
        refine wpAnyH_ready (rs := [3, 4]) (by kernel_rfl) (by simp) ?_
        refine AllReadyH.cons (take_at rfl) (fun K hK => ?_) (AllReadyH.cons (take_at rfl) (fun K hK => ?_) AllReadyH.nil)
        · go_simp
          refine (rcopy_any v e _ (E2.out.step B.out)).mono ?_
          rintro e3 W3 ⟨cw, rfl, hr, hb⟩
          have RE := Lib.hid hr.lt
          have sz2 : W2.heap.size ≤ W3.heap.size := hb.size
          replace RC := Lib.hid (RC.out.step hb)
          replace Q8 := Lib.hid (Q8.out.step hb)
          replace B := Lib.hid (B.out.step' hb)
          clear hb hr
          (try go_wp2_with fail)
          refine hK.out _ _ ?_ (fun hHeld2 => ?_)
          · (try dsimp only); exact KC.out _ (fun g hg => B.out.block g hg)
          clear hK K hHeld
          have hHeld := hHeld2
          clear hHeld2
          (try simp only [Act.put, List.setIfInBounds_toArray, List.set_cons_zero, List.set_cons_succ])
          refine wpAnyH_ready (rs := [4]) (by kernel_rfl) (by simp) ?_
          refine AllReadyH.cons (take_at rfl) (fun K hK => ?_) AllReadyH.nil
          · go_simp
            have hz7 : w2.heap.size ≤ W3.heap.size := B.out.size
            have NB := Lib.hid (alloc_new B.out VC.zero.arr 25)
            replace RC := Lib.hid (RC.out.alloc (Obj.cells VC.zero.arr 25))
            replace Q8 := Lib.hid (Q8.out.alloc (Obj.cells VC.zero.arr 25))
            replace RE := Lib.hid (RE.out.alloc (Obj.cells VC.zero.arr 25))
            have sz3 : W3.heap.size < (W3.alloc (Obj.cells VC.zero.arr 25)).heap.size := by simp
            change K _ (W3.alloc (Obj.cells VC.zero.arr 25))
            generalize W3.alloc (Obj.cells VC.zero.arr 25) = W4 at *
            have Q7 := Lib.hid NB.out.2
            replace B := Lib.hid NB.out.1
            clear NB
            refine hK.out _ _ ?_ (fun hHeld2 => ?_)
            · (try dsimp only); exact KC.out _ (fun g hg => B.out.block g hg)
            clear hK K hHeld
            have hHeld := hHeld2
            clear hHeld2
            (try simp only [Act.put, List.setIfInBounds_toArray, List.set_cons_zero, List.set_cons_succ])
            refine wpAnyH_ready (rs := [6]) (by kernel_rfl) (by simp) ?_
            refine AllReadyH.cons (take_at rfl) (fun K hK => ?_) AllReadyH.nil
            have hl7 := Q7.out.lt
            have hl8 := Q8.out.lt
            have h78 : W3.heap.size ≠ W1.heap.size := by omega
            obtain ⟨p0, p1, p2, p3, p4⟩ := VAt.of_blk Q7.out
            have zf := Q7.out.frozen
            go_simp
            have Q7' := Lib.hid (Q7.out.putV cc)
            have Q8' := Lib.hid (Q8.out.farV (b := W3.heap.size) (by omega) 0 cc)
            have RC' := Lib.hid (RC.out.keep (w' := setV W4 (W3.heap.size) 0 cc) fun b hb => heap_setV (by omega))
            have RE' := Lib.hid (RE.out.keep (w' := setV W4 (W3.heap.size) 0 cc) fun b hb => heap_setV (by omega))
            have B' := Lib.hid (below_setV B.out (b := W3.heap.size) (by omega) 0 cc)
            change K _ (setV W4 (W3.heap.size) 0 cc)
            generalize setV W4 (W3.heap.size) 0 cc = W5 at *
            clear p0 p1 p2 p3 p4 zf Q7 Q8 RC RE B
            have Q7 := Q7'
            have Q8 := Q8'
            have RC := RC'
            have RE := RE'
            have B := B'
            clear Q7' Q8' RC' RE' B'
            refine hK.out _ _ ?_ (fun hHeld2 => ?_)
            · (try dsimp only); exact KC.out _ (fun g hg => B.out.block g hg)
            clear hK K hHeld
            have hHeld := hHeld2
            clear hHeld2
            (try simp only [Act.put, List.setIfInBounds_toArray, List.set_cons_zero, List.set_cons_succ])
            refine wpAnyH_ready (rs := [7]) (by kernel_rfl) (by simp) ?_
            refine AllReadyH.cons (take_at rfl) (fun K hK => ?_) AllReadyH.nil
            obtain ⟨p0, p1, p2, p3, p4⟩ := VAt.of_blk Q8.out
            have zf := Q8.out.frozen
            go_simp
            have Q8' := Lib.hid (Q8.out.putV cw)
            have Q7' := Lib.hid (Q7.out.farV (b := W1.heap.size) (by omega) 0 cw)
            have RC' := Lib.hid (RC.out.keep (w' := setV W5 (W1.heap.size) 0 cw) fun b hb => heap_setV (by omega))
            have RE' := Lib.hid (RE.out.keep (w' := setV W5 (W1.heap.size) 0 cw) fun b hb => heap_setV (by omega))
            have B' := Lib.hid (below_setV B.out (b := W1.heap.size) (by omega) 0 cw)
            change K _ (setV W5 (W1.heap.size) 0 cw)
            generalize setV W5 (W1.heap.size) 0 cw = W6 at *
            clear p0 p1 p2 p3 p4 zf Q7 Q8 RC RE B
            have Q7 := Q7'
            have Q8 := Q8'
            have RC := RC'
            have RE := RE'
            have B := B'
            clear Q7' Q8' RC' RE' B'
            refine hK.out _ _ ?_ (fun hHeld2 => ?_)
            · (try dsimp only); exact KC.out _ (fun g hg => B.out.block g hg)
            clear hK K hHeld
            have hHeld := hHeld2
            clear hHeld2
            (try simp only [Act.put, List.setIfInBounds_toArray, List.set_cons_zero, List.set_cons_succ])
            refine wpAnyH_done (by kernel_rfl) ?_ _
            refine NoPanic.normal ?_
            go_wp2_with fail
            go_meet
            have l7 := Q7.out.lt
            have l8 := Q8.out.lt
            have lb := B.out.size
            have l1 := I2.out.2.1.lt
            exact ⟨W3.heap.size, W1.heap.size, cc, cw, rfl, rfl, ⟨I2.out.1.step B.out, I2.out.2.1.step B.out, Q7.out, Q8.out, l7, l8, by omega, RC.out.lt.mono fun b hb => hb.2, RE.out.lt.mono fun b hb => hb.2, I2.out.2.2.step' B.out⟩⟩
        · go_simp
          have hz7 : w2.heap.size ≤ W2.heap.size := B.out.size
          have NB := Lib.hid (alloc_new B.out VC.zero.arr 25)
          replace RC := Lib.hid (RC.out.alloc (Obj.cells VC.zero.arr 25))
          replace Q8 := Lib.hid (Q8.out.alloc (Obj.cells VC.zero.arr 25))
          have sz2 : W2.heap.size < (W2.alloc (Obj.cells VC.zero.arr 25)).heap.size := by simp
          change K _ (W2.alloc (Obj.cells VC.zero.arr 25))
          generalize W2.alloc (Obj.cells VC.zero.arr 25) = W3 at *
          have Q7 := Lib.hid NB.out.2
          replace B := Lib.hid NB.out.1
          clear NB
          refine hK.out _ _ ?_ (fun hHeld2 => ?_)
          · (try dsimp only); exact KC.out _ (fun g hg => B.out.block g hg)
          clear hK K hHeld
          have hHeld := hHeld2
          clear hHeld2
          (try simp only [Act.put, List.setIfInBounds_toArray, List.set_cons_zero, List.set_cons_succ])
          refine wpAnyH_ready (rs := [3]) (by kernel_rfl) (by simp) ?_
          refine AllReadyH.cons (take_at rfl) (fun K hK => ?_) AllReadyH.nil
          · go_simp
            refine (rcopy_any v e _ (E2.out.step B.out)).mono ?_
            rintro e3 W4 ⟨cw, rfl, hr, hb⟩
            have RE := Lib.hid hr.lt
            have sz3 : W3.heap.size ≤ W4.heap.size := hb.size
            replace RC := Lib.hid (RC.out.step hb)
            replace Q8 := Lib.hid (Q8.out.step hb)
            replace Q7 := Lib.hid (Q7.out.step hb)
            replace B := Lib.hid (B.out.step' hb)
            clear hb hr
            (try go_wp2_with fail)
            refine hK.out _ _ ?_ (fun hHeld2 => ?_)
            · (try dsimp only); exact KC.out _ (fun g hg => B.out.block g hg)
            clear hK K hHeld
            have hHeld := hHeld2
            clear hHeld2
            (try simp only [Act.put, List.setIfInBounds_toArray, List.set_cons_zero, List.set_cons_succ])
            refine wpAnyH_ready (rs := [6]) (by kernel_rfl) (by simp) ?_
            refine AllReadyH.cons (take_at rfl) (fun K hK => ?_) AllReadyH.nil
            have hl7 := Q7.out.lt
            have hl8 := Q8.out.lt
            have h78 : W2.heap.size ≠ W1.heap.size := by omega
            obtain ⟨p0, p1, p2, p3, p4⟩ := VAt.of_blk Q7.out
            have zf := Q7.out.frozen
            go_simp
            have Q7' := Lib.hid (Q7.out.putV cc)
            have Q8' := Lib.hid (Q8.out.farV (b := W2.heap.size) (by omega) 0 cc)
            have RC' := Lib.hid (RC.out.keep (w' := setV W4 (W2.heap.size) 0 cc) fun b hb => heap_setV (by omega))
            have RE' := Lib.hid (RE.out.keep (w' := setV W4 (W2.heap.size) 0 cc) fun b hb => heap_setV (by omega))
            have B' := Lib.hid (below_setV B.out (b := W2.heap.size) (by omega) 0 cc)
            change K _ (setV W4 (W2.heap.size) 0 cc)
            generalize setV W4 (W2.heap.size) 0 cc = W5 at *
            clear p0 p1 p2 p3 p4 zf Q7 Q8 RC RE B
            have Q7 := Q7'
            have Q8 := Q8'
            have RC := RC'
            have RE := RE'
            have B := B'
            clear Q7' Q8' RC' RE' B'
            refine hK.out _ _ ?_ (fun hHeld2 => ?_)
            · (try dsimp only); exact KC.out _ (fun g hg => B.out.block g hg)
            clear hK K hHeld
            have hHeld := hHeld2
            clear hHeld2
            (try simp only [Act.put, List.setIfInBounds_toArray, List.set_cons_zero, List.set_cons_succ])
            refine wpAnyH_ready (rs := [7]) (by kernel_rfl) (by simp) ?_
            refine AllReadyH.cons (take_at rfl) (fun K hK => ?_) AllReadyH.nil
            obtain ⟨p0, p1, p2, p3, p4⟩ := VAt.of_blk Q8.out
            have zf := Q8.out.frozen
            go_simp
            have Q8' := Lib.hid (Q8.out.putV cw)
            have Q7' := Lib.hid (Q7.out.farV (b := W1.heap.size) (by omega) 0 cw)
            have RC' := Lib.hid (RC.out.keep (w' := setV W5 (W1.heap.size) 0 cw) fun b hb => heap_setV (by omega))
            have RE' := Lib.hid (RE.out.keep (w' := setV W5 (W1.heap.size) 0 cw) fun b hb => heap_setV (by omega))
            have B' := Lib.hid (below_setV B.out (b := W1.heap.size) (by omega) 0 cw)
            change K _ (setV W5 (W1.heap.size) 0 cw)
            generalize setV W5 (W1.heap.size) 0 cw = W6 at *
            clear p0 p1 p2 p3 p4 zf Q7 Q8 RC RE B
            have Q7 := Q7'
            have Q8 := Q8'
            have RC := RC'
            have RE := RE'
            have B := B'
            clear Q7' Q8' RC' RE' B'
            refine hK.out _ _ ?_ (fun hHeld2 => ?_)
            · (try dsimp only); exact KC.out _ (fun g hg => B.out.block g hg)
            clear hK K hHeld
            have hHeld := hHeld2
            clear hHeld2
            (try simp only [Act.put, List.setIfInBounds_toArray, List.set_cons_zero, List.set_cons_succ])
            refine wpAnyH_done (by kernel_rfl) ?_ _
            refine NoPanic.normal ?_
            go_wp2_with fail
            go_meet
            have l7 := Q7.out.lt
            have l8 := Q8.out.lt
            have lb := B.out.size
            have l1 := I2.out.2.1.lt
            exact ⟨W2.heap.size, W1.heap.size, cc, cw, rfl, rfl, ⟨I2.out.1.step B.out, I2.out.2.1.step B.out, Q7.out, Q8.out, l7, l8, by omega, RC.out.lt.mono fun b hb => hb.2, RE.out.lt.mono fun b hb => hb.2, I2.out.2.2.step' B.out⟩⟩
    · go_simp
      have hz7 : w2.heap.size ≤ W0.heap.size := B.out.size
      have NB := Lib.hid (alloc_new B.out VC.zero.arr 25)
      have sz0 : W0.heap.size < (W0.alloc (Obj.cells VC.zero.arr 25)).heap.size := by simp
      change K _ (W0.alloc (Obj.cells VC.zero.arr 25))
      generalize W0.alloc (Obj.cells VC.zero.arr 25) = W1 at *
      have Q7 := Lib.hid NB.out.2
      replace B := Lib.hid NB.out.1
      clear NB
      refine hK.out _ _ ?_ (fun hHeld2 => ?_)
      · (try dsimp only); exact KC.out _ (fun g hg => B.out.block g hg)
      clear hK K hHeld
      have hHeld := hHeld2
      clear hHeld2
      (try simp only [Act.put, List.setIfInBounds_toArray, List.set_cons_zero, List.set_cons_succ])
      refine wpAnyH_ready (rs := [1, 5]) (by kernel_rfl) (by simp) ?_
      refine AllReadyH.cons (take_at rfl) (fun K hK => ?_) (AllReadyH.cons (take_at rfl) (fun K hK => ?_) AllReadyH.nil)
      · go_simp
        refine (rcopy_any x c _ (H2.out.step B.out)).mono ?_
        rintro e3 W2 ⟨cc, rfl, hr, hb⟩
        have RC := Lib.hid hr.lt
        have sz1 : W1.heap.size ≤ W2.heap.size := hb.size
        replace Q7 := Lib.hid (Q7.out.step hb)
        replace B := Lib.hid (B.out.step' hb)
        clear hb hr
        (try go_wp2_with fail)
        refine hK.out _ _ ?_ (fun hHeld2 => ?_)
        · (try dsimp only); exact KC.out _ (fun g hg => B.out.block g hg)
        clear hK K hHeld
        have hHeld := hHeld2
        clear hHeld2
        (try simp only [Act.put, List.setIfInBounds_toArray, List.set_cons_zero, List.set_cons_succ])
        refine wpAnyH_ready (rs := [3, 5]) (by kernel_rfl) (by simp) ?_
        refine AllReadyH.cons (take_at rfl) (fun K hK => ?_) (AllReadyH.cons (take_at rfl) (fun K hK => ?_) AllReadyH.nil)
        · go_simp
          refine (rcopy_any v e _ (E2.out.step B.out)).mono ?_
          rintro e3 W3 ⟨cw, rfl, hr, hb⟩
          have RE := Lib.hid hr.lt
          have sz2 : W2.heap.size ≤ W3.heap.size := hb.size
          replace Q7 := Lib.hid (Q7.out.step hb)
          replace RC := Lib.hid (RC.out.step hb)
          replace B := Lib.hid (B.out.step' hb)
          clear hb hr
          (try go_wp2_with fail)
          refine hK.out _ _ ?_ (fun hHeld2 => ?_)
          · (try dsimp only); exact KC.out _ (fun g hg => B.out.block g hg)
          clear hK K hHeld
          have hHeld := hHeld2
          clear hHeld2
          (try simp only [Act.put, List.setIfInBounds_toArray, List.set_cons_zero, List.set_cons_succ])
          refine wpAnyH_ready (rs := [5]) (by kernel_rfl) (by simp) ?_
          refine AllReadyH.cons (take_at rfl) (fun K hK => ?_) AllReadyH.nil
          · go_simp
            have hz8 : w2.heap.size ≤ W3.heap.size := B.out.size
            have NB := Lib.hid (alloc_new B.out VC.zero.arr 25)
            replace Q7 := Lib.hid (Q7.out.alloc (Obj.cells VC.zero.arr 25))
            replace RC := Lib.hid (RC.out.alloc (Obj.cells VC.zero.arr 25))
            replace RE := Lib.hid (RE.out.alloc (Obj.cells VC.zero.arr 25))
            have sz3 : W3.heap.size < (W3.alloc (Obj.cells VC.zero.arr 25)).heap.size := by simp
            change K _ (W3.alloc (Obj.cells VC.zero.arr 25))
            generalize W3.alloc (Obj.cells VC.zero.arr 25) = W4 at *
            have Q8 := Lib.hid NB.out.2
            replace B := Lib.hid NB.out.1
            clear NB
            refine hK.out _ _ ?_ (fun hHeld2 => ?_)
            · (try dsimp only); exact KC.out _ (fun g hg => B.out.block g hg)
            clear hK K hHeld
            have hHeld := hHeld2
            clear hHeld2
            (try simp only [Act.put, List.setIfInBounds_toArray, List.set_cons_zero, List.set_cons_succ])
            refine wpAnyH_ready (rs := [6]) (by kernel_rfl) (by simp) ?_
            refine AllReadyH.cons (take_at rfl) (fun K hK => ?_) AllReadyH.nil
            have hl7 := Q7.out.lt
            have hl8 := Q8.out.lt
            have h78 : W0.heap.size ≠ W3.heap.size := by omega
            obtain ⟨p0, p1, p2, p3, p4⟩ := VAt.of_blk Q7.out
            have zf := Q7.out.frozen
            go_simp
            have Q7' := Lib.hid (Q7.out.putV cc)
            have Q8' := Lib.hid (Q8.out.farV (b := W0.heap.size) (by omega) 0 cc)
            have RC' := Lib.hid (RC.out.keep (w' := setV W4 (W0.heap.size) 0 cc) fun b hb => heap_setV (by omega))
            have RE' := Lib.hid (RE.out.keep (w' := setV W4 (W0.heap.size) 0 cc) fun b hb => heap_setV (by omega))
            have B' := Lib.hid (below_setV B.out (b := W0.heap.size) (by omega) 0 cc)
            change K _ (setV W4 (W0.heap.size) 0 cc)
            generalize setV W4 (W0.heap.size) 0 cc = W5 at *
            clear p0 p1 p2 p3 p4 zf Q7 Q8 RC RE B
            have Q7 := Q7'
            have Q8 := Q8'
            have RC := RC'
            have RE := RE'
            have B := B'
            clear Q7' Q8' RC' RE' B'
            refine hK.out _ _ ?_ (fun hHeld2 => ?_)
            · (try dsimp only); exact KC.out _ (fun g hg => B.out.block g hg)
            clear hK K hHeld
            have hHeld := hHeld2
            clear hHeld2
            (try simp only [Act.put, List.setIfInBounds_toArray, List.set_cons_zero, List.set_cons_succ])
            refine wpAnyH_ready (rs := [7]) (by kernel_rfl) (by simp) ?_
            refine AllReadyH.cons (take_at rfl) (fun K hK => ?_) AllReadyH.nil
            obtain ⟨p0, p1, p2, p3, p4⟩ := VAt.of_blk Q8.out
            have zf := Q8.out.frozen
            go_simp
            have Q8' := Lib.hid (Q8.out.putV cw)
            have Q7' := Lib.hid (Q7.out.farV (b := W3.heap.size) (by omega) 0 cw)
            have RC' := Lib.hid (RC.out.keep (w' := setV W5 (W3.heap.size) 0 cw) fun b hb => heap_setV (by omega))
            have RE' := Lib.hid (RE.out.keep (w' := setV W5 (W3.heap.size) 0 cw) fun b hb => heap_setV (by omega))
            have B' := Lib.hid (below_setV B.out (b := W3.heap.size) (by omega) 0 cw)
            change K _ (setV W5 (W3.heap.size) 0 cw)
            generalize setV W5 (W3.heap.size) 0 cw = W6 at *
            clear p0 p1 p2 p3 p4 zf Q7 Q8 RC RE B
            have Q7 := Q7'
            have Q8 := Q8'
            have RC := RC'
            have RE := RE'
            have B := B'
            clear Q7' Q8' RC' RE' B'
            refine hK.out _ _ ?_ (fun hHeld2 => ?_)
            · (try dsimp only); exact KC.out _ (fun g hg => B.out.block g hg)
            clear hK K hHeld
            have hHeld := hHeld2
            clear hHeld2
            (try simp only [Act.put, List.setIfInBounds_toArray, List.set_cons_zero, List.set_cons_succ])
            refine wpAnyH_done (by kernel_rfl) ?_ _
            refine NoPanic.normal ?_
            go_wp2_with fail
            go_meet
            have l7 := Q7.out.lt
            have l8 := Q8.out.lt
            have lb := B.out.size
            have l1 := I2.out.2.1.lt
            exact ⟨W0.heap.size, W3.heap.size, cc, cw, rfl, rfl, ⟨I2.out.1.step B.out, I2.out.2.1.step B.out, Q7.out, Q8.out, l7, l8, by omega, RC.out.lt.mono fun b hb => hb.2, RE.out.lt.mono fun b hb => hb.2, I2.out.2.2.step' B.out⟩⟩
        · go_simp
          have hz8 : w2.heap.size ≤ W2.heap.size := B.out.size
          have NB := Lib.hid (alloc_new B.out VC.zero.arr 25)
          replace Q7 := Lib.hid (Q7.out.alloc (Obj.cells VC.zero.arr 25))
          replace RC := Lib.hid (RC.out.alloc (Obj.cells VC.zero.arr 25))
          have sz2 : W2.heap.size < (W2.alloc (Obj.cells VC.zero.arr 25)).heap.size := by simp
          change K _ (W2.alloc (Obj.cells VC.zero.arr 25))
          generalize W2.alloc (Obj.cells VC.zero.arr 25) = W3 at *
          have Q8 := Lib.hid NB.out.2
          replace B := Lib.hid NB.out.1
          clear NB
          refine hK.out _ _ ?_ (fun hHeld2 => ?_)
          · (try dsimp only); exact KC.out _ (fun g hg => B.out.block g hg)
          clear hK K hHeld
          have hHeld := hHeld2
          clear hHeld2
          (try simp only [Act.put, List.setIfInBounds_toArray, List.set_cons_zero, List.set_cons_succ])
          refine wpAnyH_ready (rs := [3]) (by kernel_rfl) (by simp) ?_
          refine AllReadyH.cons (take_at rfl) (fun K hK => ?_) AllReadyH.nil
          · go_simp
            refine (rcopy_any v e _ (E2.out.step B.out)).mono ?_
            rintro e3 W4 ⟨cw, rfl, hr, hb⟩
            have RE := Lib.hid hr.lt
            have sz3 : W3.heap.size ≤ W4.heap.size := hb.size
            replace Q7 := Lib.hid (Q7.out.step hb)
            replace RC := Lib.hid (RC.out.step hb)
            replace Q8 := Lib.hid (Q8.out.step hb)
            replace B := Lib.hid (B.out.step' hb)
            clear hb hr
            (try go_wp2_with fail)
            refine hK.out _ _ ?_ (fun hHeld2 => ?_)
            · (try dsimp only); exact KC.out _ (fun g hg => B.out.block g hg)
            clear hK K hHeld
            have hHeld := hHeld2
            clear hHeld2
            (try simp only [Act.put, List.setIfInBounds_toArray, List.set_cons_zero, List.set_cons_succ])
            refine wpAnyH_ready (rs := [6]) (by kernel_rfl) (by simp) ?_
            refine AllReadyH.cons (take_at rfl) (fun K hK => ?_) AllReadyH.nil
            have hl7 := Q7.out.lt
            have hl8 := Q8.out.lt
            have h78 : W0.heap.size ≠ W2.heap.size := by omega
            obtain ⟨p0, p1, p2, p3, p4⟩ := VAt.of_blk Q7.out
            have zf := Q7.out.frozen
            go_simp
            have Q7' := Lib.hid (Q7.out.putV cc)
            have Q8' := Lib.hid (Q8.out.farV (b := W0.heap.size) (by omega) 0 cc)
            have RC' := Lib.hid (RC.out.keep (w' := setV W4 (W0.heap.size) 0 cc) fun b hb => heap_setV (by omega))
            have RE' := Lib.hid (RE.out.keep (w' := setV W4 (W0.heap.size) 0 cc) fun b hb => heap_setV (by omega))
            have B' := Lib.hid (below_setV B.out (b := W0.heap.size) (by omega) 0 cc)
            change K _ (setV W4 (W0.heap.size) 0 cc)
            generalize setV W4 (W0.heap.size) 0 cc = W5 at *
            clear p0 p1 p2 p3 p4 zf Q7 Q8 RC RE B
            have Q7 := Q7'
            have Q8 := Q8'
            have RC := RC'
            have RE := RE'
            have B := B'
            clear Q7' Q8' RC' RE' B'
            refine hK.out _ _ ?_ (fun hHeld2 => ?_)
            · (try dsimp only); exact KC.out _ (fun g hg => B.out.block g hg)
            clear hK K hHeld
            have hHeld := hHeld2
            clear hHeld2
            (try simp only [Act.put, List.setIfInBounds_toArray, List.set_cons_zero, List.set_cons_succ])
            refine wpAnyH_ready (rs := [7]) (by kernel_rfl) (by simp) ?_
            refine AllReadyH.cons (take_at rfl) (fun K hK => ?_) AllReadyH.nil
            obtain ⟨p0, p1, p2, p3, p4⟩ := VAt.of_blk Q8.out
            have zf := Q8.out.frozen
            go_simp
            have Q8' := Lib.hid (Q8.out.putV cw)
            have Q7' := Lib.hid (Q7.out.farV (b := W2.heap.size) (by omega) 0 cw)
            have RC' := Lib.hid (RC.out.keep (w' := setV W5 (W2.heap.size) 0 cw) fun b hb => heap_setV (by omega))
            have RE' := Lib.hid (RE.out.keep (w' := setV W5 (W2.heap.size) 0 cw) fun b hb => heap_setV (by omega))
            have B' := Lib.hid (below_setV B.out (b := W2.heap.size) (by omega) 0 cw)
            change K _ (setV W5 (W2.heap.size) 0 cw)
            generalize setV W5 (W2.heap.size) 0 cw = W6 at *
            clear p0 p1 p2 p3 p4 zf Q7 Q8 RC RE B
            have Q7 := Q7'
            have Q8 := Q8'
            have RC := RC'
            have RE := RE'
            have B := B'
            clear Q7' Q8' RC' RE' B'
            refine hK.out _ _ ?_ (fun hHeld2 => ?_)
            · (try dsimp only); exact KC.out _ (fun g hg => B.out.block g hg)
            clear hK K hHeld
            have hHeld := hHeld2
            clear hHeld2
            (try simp only [Act.put, List.setIfInBounds_toArray, List.set_cons_zero, List.set_cons_succ])
            refine wpAnyH_done (by kernel_rfl) ?_ _
            refine NoPanic.normal ?_
            go_wp2_with fail
            go_meet
            have l7 := Q7.out.lt
            have l8 := Q8.out.lt
            have lb := B.out.size
            have l1 := I2.out.2.1.lt
            exact ⟨W0.heap.size, W2.heap.size, cc, cw, rfl, rfl, ⟨I2.out.1.step B.out, I2.out.2.1.step B.out, Q7.out, Q8.out, l7, l8, by omega, RC.out.lt.mono fun b hb => hb.2, RE.out.lt.mono fun b hb => hb.2, I2.out.2.2.step' B.out⟩⟩
      · go_simp
        have hz8 : w2.heap.size ≤ W1.heap.size := B.out.size
        have NB := Lib.hid (alloc_new B.out VC.zero.arr 25)
        replace Q7 := Lib.hid (Q7.out.alloc (Obj.cells VC.zero.arr 25))
        have sz1 : W1.heap.size < (W1.alloc (Obj.cells VC.zero.arr 25)).heap.size := by simp
        change K _ (W1.alloc (Obj.cells VC.zero.arr 25))
        generalize W1.alloc (Obj.cells VC.zero.arr 25) = W2 at *
        have Q8 := Lib.hid NB.out.2
        replace B := Lib.hid NB.out.1
        clear NB
        refine hK.out _ _ ?_ (fun hHeld2 => ?_)
        · (try dsimp only); exact KC.out _ (fun g hg => B.out.block g hg)
        clear hK K hHeld
        have hHeld := hHeld2
        clear hHeld2
        (try simp only [Act.put, List.setIfInBounds_toArray, List.set_cons_zero, List.set_cons_succ])
        refine wpAnyH_ready (rs := [1]) (by kernel_rfl) (by simp) ?_
        refine AllReadyH.cons (take_at rfl) (fun K hK => ?_) AllReadyH.nil
        · go_simp
          refine (rcopy_any x c _ (H2.out.step B.out)).mono ?_
          rintro e3 W3 ⟨cc, rfl, hr, hb⟩
          have RC := Lib.hid hr.lt
          have sz2 : W2.heap.size ≤ W3.heap.size := hb.size
          replace Q7 := Lib.hid (Q7.out.step hb)
          replace Q8 := Lib.hid (Q8.out.step hb)
          replace B := Lib.hid (B.out.step' hb)
          clear hb hr
          (try go_wp2_with fail)
          refine hK.out _ _ ?_ (fun hHeld2 => ?_)
          · (try dsimp only); exact KC.out _ (fun g hg => B.out.block g hg)
          clear hK K hHeld
          have hHeld := hHeld2
          clear hHeld2
          (try simp only [Act.put, List.setIfInBounds_toArray, List.set_cons_zero, List.set_cons_succ])
          refine wpAnyH_ready (rs := [3]) (by kernel_rfl) (by simp) ?_
          refine AllReadyH.cons (take_at rfl) (fun K hK => ?_) AllReadyH.nil
          · go_simp
            refine (rcopy_any v e _ (E2.out.step B.out)).mono ?_
            rintro e3 W4 ⟨cw, rfl, hr, hb⟩
            have RE := Lib.hid hr.lt
            have sz3 : W3.heap.size ≤ W4.heap.size := hb.size
            replace Q7 := Lib.hid (Q7.out.step hb)
            replace Q8 := Lib.hid (Q8.out.step hb)
            replace RC := Lib.hid (RC.out.step hb)
            replace B := Lib.hid (B.out.step' hb)
            clear hb hr
            (try go_wp2_with fail)
            refine hK.out _ _ ?_ (fun hHeld2 => ?_)
            · (try dsimp only); exact KC.out _ (fun g hg => B.out.block g hg)
            clear hK K hHeld
            have hHeld := hHeld2
            clear hHeld2
            (try simp only [Act.put, List.setIfInBounds_toArray, List.set_cons_zero, List.set_cons_succ])
            refine wpAnyH_ready (rs := [6]) (by kernel_rfl) (by simp) ?_
            refine AllReadyH.cons (take_at rfl) (fun K hK => ?_) AllReadyH.nil
            have hl7 := Q7.out.lt
            have hl8 := Q8.out.lt
            have h78 : W0.heap.size ≠ W1.heap.size := by omega
            obtain ⟨p0, p1, p2, p3, p4⟩ := VAt.of_blk Q7.out
            have zf := Q7.out.frozen
            go_simp
            have Q7' := Lib.hid (Q7.out.putV cc)
            have Q8' := Lib.hid (Q8.out.farV (b := W0.heap.size) (by omega) 0 cc)
            have RC' := Lib.hid (RC.out.keep (w' := setV W4 (W0.heap.size) 0 cc) fun b hb => heap_setV (by omega))
            have RE' := Lib.hid (RE.out.keep (w' := setV W4 (W0.heap.size) 0 cc) fun b hb => heap_setV (by omega))
            have B' := Lib.hid (below_setV B.out (b := W0.heap.size) (by omega) 0 cc)
            change K _ (setV W4 (W0.heap.size) 0 cc)
            generalize setV W4 (W0.heap.size) 0 cc = W5 at *
            clear p0 p1 p2 p3 p4 zf Q7 Q8 RC RE B
            have Q7 := Q7'
            have Q8 := Q8'
            have RC := RC'
            have RE := RE'
            have B := B'
            clear Q7' Q8' RC' RE' B'
            refine hK.out _ _ ?_ (fun hHeld2 => ?_)
            · (try dsimp only); exact KC.out _ (fun g hg => B.out.block g hg)
            clear hK K hHeld
            have hHeld := hHeld2
            clear hHeld2
            (try simp only [Act.put, List.setIfInBounds_toArray, List.set_cons_zero, List.set_cons_succ])
            refine wpAnyH_ready (rs := [7]) (by kernel_rfl) (by simp) ?_
            refine AllReadyH.cons (take_at rfl) (fun K hK => ?_) AllReadyH.nil
            obtain ⟨p0, p1, p2, p3, p4⟩ := VAt.of_blk Q8.out
            have zf := Q8.out.frozen
            go_simp
            have Q8' := Lib.hid (Q8.out.putV cw)
            have Q7' := Lib.hid (Q7.out.farV (b := W1.heap.size) (by omega) 0 cw)
            have RC' := Lib.hid (RC.out.keep (w' := setV W5 (W1.heap.size) 0 cw) fun b hb => heap_setV (by omega))
            have RE' := Lib.hid (RE.out.keep (w' := setV W5 (W1.heap.size) 0 cw) fun b hb => heap_setV (by omega))
            have B' := Lib.hid (below_setV B.out (b := W1.heap.size) (by omega) 0 cw)
            change K _ (setV W5 (W1.heap.size) 0 cw)
            generalize setV W5 (W1.heap.size) 0 cw = W6 at *
            clear p0 p1 p2 p3 p4 zf Q7 Q8 RC RE B
            have Q7 := Q7'
            have Q8 := Q8'
            have RC := RC'
            have RE := RE'
            have B := B'
            clear Q7' Q8' RC' RE' B'
            refine hK.out _ _ ?_ (fun hHeld2 => ?_)
            · (try dsimp only); exact KC.out _ (fun g hg => B.out.block g hg)
            clear hK K hHeld
            have hHeld := hHeld2
            clear hHeld2
            (try simp only [Act.put, List.setIfInBounds_toArray, List.set_cons_zero, List.set_cons_succ])
            refine wpAnyH_done (by kernel_rfl) ?_ _
            refine NoPanic.normal ?_
            go_wp2_with fail
            go_meet
            have l7 := Q7.out.lt
            have l8 := Q8.out.lt
            have lb := B.out.size
            have l1 := I2.out.2.1.lt
            exact ⟨W0.heap.size, W1.heap.size, cc, cw, rfl, rfl, ⟨I2.out.1.step B.out, I2.out.2.1.step B.out, Q7.out, Q8.out, l7, l8, by omega, RC.out.lt.mono fun b hb => hb.2, RE.out.lt.mono fun b hb => hb.2, I2.out.2.2.step' B.out⟩⟩
    · go_simp
      have hz8 : w2.heap.size ≤ W0.heap.size := B.out.size
      have NB := Lib.hid (alloc_new B.out VC.zero.arr 25)
      have sz0 : W0.heap.size < (W0.alloc (Obj.cells VC.zero.arr 25)).heap.size := by simp
      change K _ (W0.alloc (Obj.cells VC.zero.arr 25))
      generalize W0.alloc (Obj.cells VC.zero.arr 25) = W1 at *
      have Q8 := Lib.hid NB.out.2
      replace B := Lib.hid NB.out.1
      clear NB
      refine hK.out _ _ ?_ (fun hHeld2 => ?_)
      · (try dsimp only); exact KC.out _ (fun g hg => B.out.block g hg)
      clear hK K hHeld
      have hHeld := hHeld2
      clear hHeld2
      (try simp only [Act.put, List.setIfInBounds_toArray, List.set_cons_zero, List.set_cons_succ])
      refine wpAnyH_ready (rs := [1, 4]) (by kernel_rfl) (by simp) ?_
      refine AllReadyH.cons (take_at rfl) (fun K hK => ?_) (AllReadyH.cons (take_at rfl) (fun K hK => ?_) AllReadyH.nil)
      · go_simp
        refine (rcopy_any x c _ (H2.out.step B.out)).mono ?_
        rintro e3 W2 ⟨cc, rfl, hr, hb⟩
        have RC := Lib.hid hr.lt
        have sz1 : W1.heap.size ≤ W2.heap.size := hb.size
        replace Q8 := Lib.hid (Q8.out.step hb)
        replace B := Lib.hid (B.out.step' hb)
        clear hb hr
        (try go_wp2_with fail)
        refine hK.out _ _ ?_ (fun hHeld2 => ?_)
        · (try dsimp only); exact KC.out _ (fun g hg => B.out.block g hg)
        clear hK K hHeld
        have hHeld := hHeld2
        clear hHeld2
        (try simp only [Act.put, List.setIfInBounds_toArray, List.set_cons_zero, List.set_cons_succ])
        refine wpAnyH_ready (rs := [3, 4]) (by kernel_rfl) (by simp) ?_
        refine AllReadyH.cons (take_at rfl) (fun K hK => ?_) (AllReadyH.cons (take_at rfl) (fun K hK => ?_) AllReadyH.nil)
        · go_simp
          refine (rcopy_any v e _ (E2.out.step B.out)).mono ?_
          rintro e3 W3 ⟨cw, rfl, hr, hb⟩
          have RE := Lib.hid hr.lt
          have sz2 : W2.heap.size ≤ W3.heap.size := hb.size
          replace Q8 := Lib.hid (Q8.out.step hb)
          replace RC := Lib.hid (RC.out.step hb)
          replace B := Lib.hid (B.out.step' hb)
          clear hb hr
          (try go_wp2_with fail)
          refine hK.out _ _ ?_ (fun hHeld2 => ?_)
          · (try dsimp only); exact KC.out _ (fun g hg => B.out.block g hg)
          clear hK K hHeld
          have hHeld := hHeld2
          clear hHeld2
          (try simp only [Act.put, List.setIfInBounds_toArray, List.set_cons_zero, List.set_cons_succ])
          refine wpAnyH_ready (rs := [4]) (by kernel_rfl) (by simp) ?_
          refine AllReadyH.cons (take_at rfl) (fun K hK => ?_) AllReadyH.nil
          · go_simp
            have hz7 : w2.heap.size ≤ W3.heap.size := B.out.size
            have NB := Lib.hid (alloc_new B.out VC.zero.arr 25)
            replace Q8 := Lib.hid (Q8.out.alloc (Obj.cells VC.zero.arr 25))
            replace RC := Lib.hid (RC.out.alloc (Obj.cells VC.zero.arr 25))
            replace RE := Lib.hid (RE.out.alloc (Obj.cells VC.zero.arr 25))
            have sz3 : W3.heap.size < (W3.alloc (Obj.cells VC.zero.arr 25)).heap.size := by simp
            change K _ (W3.alloc (Obj.cells VC.zero.arr 25))
            generalize W3.alloc (Obj.cells VC.zero.arr 25) = W4 at *
            have Q7 := Lib.hid NB.out.2
            replace B := Lib.hid NB.out.1
            clear NB
            refine hK.out _ _ ?_ (fun hHeld2 => ?_)
            · (try dsimp only); exact KC.out _ (fun g hg => B.out.block g hg)
            clear hK K hHeld
            have hHeld := hHeld2
            clear hHeld2
            (try simp only [Act.put, List.setIfInBounds_toArray, List.set_cons_zero, List.set_cons_succ])
            refine wpAnyH_ready (rs := [6]) (by kernel_rfl) (by simp) ?_
            refine AllReadyH.cons (take_at rfl) (fun K hK => ?_) AllReadyH.nil
            have hl7 := Q7.out.lt
            have hl8 := Q8.out.lt
            have h78 : W3.heap.size ≠ W0.heap.size := by omega
            obtain ⟨p0, p1, p2, p3, p4⟩ := VAt.of_blk Q7.out
            have zf := Q7.out.frozen
            go_simp
            have Q7' := Lib.hid (Q7.out.putV cc)
            have Q8' := Lib.hid (Q8.out.farV (b := W3.heap.size) (by omega) 0 cc)
            have RC' := Lib.hid (RC.out.keep (w' := setV W4 (W3.heap.size) 0 cc) fun b hb => heap_setV (by omega))
            have RE' := Lib.hid (RE.out.keep (w' := setV W4 (W3.heap.size) 0 cc) fun b hb => heap_setV (by omega))
            have B' := Lib.hid (below_setV B.out (b := W3.heap.size) (by omega) 0 cc)
            change K _ (setV W4 (W3.heap.size) 0 cc)
            generalize setV W4 (W3.heap.size) 0 cc = W5 at *
            clear p0 p1 p2 p3 p4 zf Q7 Q8 RC RE B
            have Q7 := Q7'
            have Q8 := Q8'
            have RC := RC'
            have RE := RE'
            have B := B'
            clear Q7' Q8' RC' RE' B'
            refine hK.out _ _ ?_ (fun hHeld2 => ?_)
            · (try dsimp only); exact KC.out _ (fun g hg => B.out.block g hg)
            clear hK K hHeld
            have hHeld := hHeld2
            clear hHeld2
            (try simp only [Act.put, List.setIfInBounds_toArray, List.set_cons_zero, List.set_cons_succ])
            refine wpAnyH_ready (rs := [7]) (by kernel_rfl) (by simp) ?_
            refine AllReadyH.cons (take_at rfl) (fun K hK => ?_) AllReadyH.nil
            obtain ⟨p0, p1, p2, p3, p4⟩ := VAt.of_blk Q8.out
            have zf := Q8.out.frozen
            go_simp
            have Q8' := Lib.hid (Q8.out.putV cw)
            have Q7' := Lib.hid (Q7.out.farV (b := W0.heap.size) (by omega) 0 cw)
            have RC' := Lib.hid (RC.out.keep (w' := setV W5 (W0.heap.size) 0 cw) fun b hb => heap_setV (by omega))
            have RE' := Lib.hid (RE.out.keep (w' := setV W5 (W0.heap.size) 0 cw) fun b hb => heap_setV (by omega))
            have B' := Lib.hid (below_setV B.out (b := W0.heap.size) (by omega) 0 cw)
            change K _ (setV W5 (W0.heap.size) 0 cw)
            generalize setV W5 (W0.heap.size) 0 cw = W6 at *
            clear p0 p1 p2 p3 p4 zf Q7 Q8 RC RE B
            have Q7 := Q7'
            have Q8 := Q8'
            have RC := RC'
            have RE := RE'
            have B := B'
            clear Q7' Q8' RC' RE' B'
            refine hK.out _ _ ?_ (fun hHeld2 => ?_)
            · (try dsimp only); exact KC.out _ (fun g hg => B.out.block g hg)
            clear hK K hHeld
            have hHeld := hHeld2
            clear hHeld2
            (try simp only [Act.put, List.setIfInBounds_toArray, List.set_cons_zero, List.set_cons_succ])
            refine wpAnyH_done (by kernel_rfl) ?_ _
            refine NoPanic.normal ?_
            go_wp2_with fail
            go_meet
            have l7 := Q7.out.lt
            have l8 := Q8.out.lt
            have lb := B.out.size
            have l1 := I2.out.2.1.lt
            exact ⟨W3.heap.size, W0.heap.size, cc, cw, rfl, rfl, ⟨I2.out.1.step B.out, I2.out.2.1.step B.out, Q7.out, Q8.out, l7, l8, by omega, RC.out.lt.mono fun b hb => hb.2, RE.out.lt.mono fun b hb => hb.2, I2.out.2.2.step' B.out⟩⟩
        · go_simp
          have hz7 : w2.heap.size ≤ W2.heap.size := B.out.size
          have NB := Lib.hid (alloc_new B.out VC.zero.arr 25)
          replace Q8 := Lib.hid (Q8.out.alloc (Obj.cells VC.zero.arr 25))
          replace RC := Lib.hid (RC.out.alloc (Obj.cells VC.zero.arr 25))
          have sz2 : W2.heap.size < (W2.alloc (Obj.cells VC.zero.arr 25)).heap.size := by simp
          change K _ (W2.alloc (Obj.cells VC.zero.arr 25))
          generalize W2.alloc (Obj.cells VC.zero.arr 25) = W3 at *
          have Q7 := Lib.hid NB.out.2
          replace B := Lib.hid NB.out.1
          clear NB
          refine hK.out _ _ ?_ (fun hHeld2 => ?_)
          · (try dsimp only); exact KC.out _ (fun g hg => B.out.block g hg)
          clear hK K hHeld
          have hHeld := hHeld2
          clear hHeld2
          (try simp only [Act.put, List.setIfInBounds_toArray, List.set_cons_zero, List.set_cons_succ])
          refine wpAnyH_ready (rs := [3]) (by kernel_rfl) (by simp) ?_
          refine AllReadyH.cons (take_at rfl) (fun K hK => ?_) AllReadyH.nil
          · go_simp
            refine (rcopy_any v e _ (E2.out.step B.out)).mono ?_
            rintro e3 W4 ⟨cw, rfl, hr, hb⟩
            have RE := Lib.hid hr.lt
            have sz3 : W3.heap.size ≤ W4.heap.size := hb.size
            replace Q8 := Lib.hid (Q8.out.step hb)
            replace RC := Lib.hid (RC.out.step hb)
            replace Q7 := Lib.hid (Q7.out.step hb)
            replace B := Lib.hid (B.out.step' hb)
            clear hb hr
            (try go_wp2_with fail)
            refine hK.out _ _ ?_ (fun hHeld2 => ?_)
            · (try dsimp only); exact KC.out _ (fun g hg => B.out.block g hg)
            clear hK K hHeld
            have hHeld := hHeld2
            clear hHeld2
            (try simp only [Act.put, List.setIfInBounds_toArray, List.set_cons_zero, List.set_cons_succ])
            refine wpAnyH_ready (rs := [6]) (by kernel_rfl) (by simp) ?_
            refine AllReadyH.cons (take_at rfl) (fun K hK => ?_) AllReadyH.nil
            have hl7 := Q7.out.lt
            have hl8 := Q8.out.lt
            have h78 : W2.heap.size ≠ W0.heap.size := by omega
            obtain ⟨p0, p1, p2, p3, p4⟩ := VAt.of_blk Q7.out
            have zf := Q7.out.frozen
            go_simp
            have Q7' := Lib.hid (Q7.out.putV cc)
            have Q8' := Lib.hid (Q8.out.farV (b := W2.heap.size) (by omega) 0 cc)
            have RC' := Lib.hid (RC.out.keep (w' := setV W4 (W2.heap.size) 0 cc) fun b hb => heap_setV (by omega))
            have RE' := Lib.hid (RE.out.keep (w' := setV W4 (W2.heap.size) 0 cc) fun b hb => heap_setV (by omega))
            have B' := Lib.hid (below_setV B.out (b := W2.heap.size) (by omega) 0 cc)
            change K _ (setV W4 (W2.heap.size) 0 cc)
            generalize setV W4 (W2.heap.size) 0 cc = W5 at *
            clear p0 p1 p2 p3 p4 zf Q7 Q8 RC RE B
            have Q7 := Q7'
            have Q8 := Q8'
            have RC := RC'
            have RE := RE'
            have B := B'
            clear Q7' Q8' RC' RE' B'
            refine hK.out _ _ ?_ (fun hHeld2 => ?_)
            · (try dsimp only); exact KC.out _ (fun g hg => B.out.block g hg)
            clear hK K hHeld
            have hHeld := hHeld2
            clear hHeld2
            (try simp only [Act.put, List.setIfInBounds_toArray, List.set_cons_zero, List.set_cons_succ])
            refine wpAnyH_ready (rs := [7]) (by kernel_rfl) (by simp) ?_
            refine AllReadyH.cons (take_at rfl) (fun K hK => ?_) AllReadyH.nil
            obtain ⟨p0, p1, p2, p3, p4⟩ := VAt.of_blk Q8.out
            have zf := Q8.out.frozen
            go_simp
            have Q8' := Lib.hid (Q8.out.putV cw)
            have Q7' := Lib.hid (Q7.out.farV (b := W0.heap.size) (by omega) 0 cw)
            have RC' := Lib.hid (RC.out.keep (w' := setV W5 (W0.heap.size) 0 cw) fun b hb => heap_setV (by omega))
            have RE' := Lib.hid (RE.out.keep (w' := setV W5 (W0.heap.size) 0 cw) fun b hb => heap_setV (by omega))
            have B' := Lib.hid (below_setV B.out (b := W0.heap.size) (by omega) 0 cw)
            change K _ (setV W5 (W0.heap.size) 0 cw)
            generalize setV W5 (W0.heap.size) 0 cw = W6 at *
            clear p0 p1 p2 p3 p4 zf Q7 Q8 RC RE B
            have Q7 := Q7'
            have Q8 := Q8'
            have RC := RC'
            have RE := RE'
            have B := B'
            clear Q7' Q8' RC' RE' B'
            refine hK.out _ _ ?_ (fun hHeld2 => ?_)
            · (try dsimp only); exact KC.out _ (fun g hg => B.out.block g hg)
            clear hK K hHeld
            have hHeld := hHeld2
            clear hHeld2
            (try simp only [Act.put, List.setIfInBounds_toArray, List.set_cons_zero, List.set_cons_succ])
            refine wpAnyH_done (by kernel_rfl) ?_ _
            refine NoPanic.normal ?_
            go_wp2_with fail
            go_meet
            have l7 := Q7.out.lt
            have l8 := Q8.out.lt
            have lb := B.out.size
            have l1 := I2.out.2.1.lt
            exact ⟨W2.heap.size, W0.heap.size, cc, cw, rfl, rfl, ⟨I2.out.1.step B.out, I2.out.2.1.step B.out, Q7.out, Q8.out, l7, l8, by omega, RC.out.lt.mono fun b hb => hb.2, RE.out.lt.mono fun b hb => hb.2, I2.out.2.2.step' B.out⟩⟩
      · go_simp
        have hz7 : w2.heap.size ≤ W1.heap.size := B.out.size
        have NB := Lib.hid (alloc_new B.out VC.zero.arr 25)
        replace Q8 := Lib.hid (Q8.out.alloc (Obj.cells VC.zero.arr 25))
        have sz1 : W1.heap.size < (W1.alloc (Obj.cells VC.zero.arr 25)).heap.size := by simp
        change K _ (W1.alloc (Obj.cells VC.zero.arr 25))
        generalize W1.alloc (Obj.cells VC.zero.arr 25) = W2 at *
        have Q7 := Lib.hid NB.out.2
        replace B := Lib.hid NB.out.1
        clear NB
        refine hK.out _ _ ?_ (fun hHeld2 => ?_)
        · (try dsimp only); exact KC.out _ (fun g hg => B.out.block g hg)
        clear hK K hHeld
        have hHeld := hHeld2
        clear hHeld2
        (try simp only [Act.put, List.setIfInBounds_toArray, List.set_cons_zero, List.set_cons_succ])
        refine wpAnyH_ready (rs := [1]) (by kernel_rfl) (by simp) ?_
        refine AllReadyH.cons (take_at rfl) (fun K hK => ?_) AllReadyH.nil
        · go_simp
          refine (rcopy_any x c _ (H2.out.step B.out)).mono ?_
          rintro e3 W3 ⟨cc, rfl, hr, hb⟩
          have RC := Lib.hid hr.lt
          have sz2 : W2.heap.size ≤ W3.heap.size := hb.size
          replace Q8 := Lib.hid (Q8.out.step hb)
          replace Q7 := Lib.hid (Q7.out.step hb)
          replace B := Lib.hid (B.out.step' hb)
          clear hb hr
          (try go_wp2_with fail)
          refine hK.out _ _ ?_ (fun hHeld2 => ?_)
          · (try dsimp only); exact KC.out _ (fun g hg => B.out.block g hg)
          clear hK K hHeld
          have hHeld := hHeld2
          clear hHeld2
          (try simp only [Act.put, List.setIfInBounds_toArray, List.set_cons_zero, List.set_cons_succ])
          refine wpAnyH_ready (rs := [3]) (by kernel_rfl) (by simp) ?_
          refine AllReadyH.cons (take_at rfl) (fun K hK => ?_) AllReadyH.nil
          · go_simp
            refine (rcopy_any v e _ (E2.out.step B.out)).mono ?_
            rintro e3 W4 ⟨cw, rfl, hr, hb⟩
            have RE := Lib.hid hr.lt
            have sz3 : W3.heap.size ≤ W4.heap.size := hb.size
            replace Q8 := Lib.hid (Q8.out.step hb)
            replace Q7 := Lib.hid (Q7.out.step hb)
            replace RC := Lib.hid (RC.out.step hb)
            replace B := Lib.hid (B.out.step' hb)
            clear hb hr
            (try go_wp2_with fail)
            refine hK.out _ _ ?_ (fun hHeld2 => ?_)
            · (try dsimp only); exact KC.out _ (fun g hg => B.out.block g hg)
            clear hK K hHeld
            have hHeld := hHeld2
            clear hHeld2
            (try simp only [Act.put, List.setIfInBounds_toArray, List.set_cons_zero, List.set_cons_succ])
            refine wpAnyH_ready (rs := [6]) (by kernel_rfl) (by simp) ?_
            refine AllReadyH.cons (take_at rfl) (fun K hK => ?_) AllReadyH.nil
            have hl7 := Q7.out.lt
            have hl8 := Q8.out.lt
            have h78 : W1.heap.size ≠ W0.heap.size := by omega
            obtain ⟨p0, p1, p2, p3, p4⟩ := VAt.of_blk Q7.out
            have zf := Q7.out.frozen
            go_simp
            have Q7' := Lib.hid (Q7.out.putV cc)
            have Q8' := Lib.hid (Q8.out.farV (b := W1.heap.size) (by omega) 0 cc)
            have RC' := Lib.hid (RC.out.keep (w' := setV W4 (W1.heap.size) 0 cc) fun b hb => heap_setV (by omega))
            have RE' := Lib.hid (RE.out.keep (w' := setV W4 (W1.heap.size) 0 cc) fun b hb => heap_setV (by omega))
            have B' := Lib.hid (below_setV B.out (b := W1.heap.size) (by omega) 0 cc)
            change K _ (setV W4 (W1.heap.size) 0 cc)
            generalize setV W4 (W1.heap.size) 0 cc = W5 at *
            clear p0 p1 p2 p3 p4 zf Q7 Q8 RC RE B
            have Q7 := Q7'
            have Q8 := Q8'
            have RC := RC'
            have RE := RE'
            have B := B'
            clear Q7' Q8' RC' RE' B'
            refine hK.out _ _ ?_ (fun hHeld2 => ?_)
            · (try dsimp only); exact KC.out _ (fun g hg => B.out.block g hg)
            clear hK K hHeld
            have hHeld := hHeld2
            clear hHeld2
            (try simp only [Act.put, List.setIfInBounds_toArray, List.set_cons_zero, List.set_cons_succ])
            refine wpAnyH_ready (rs := [7]) (by kernel_rfl) (by simp) ?_
            refine AllReadyH.cons (take_at rfl) (fun K hK => ?_) AllReadyH.nil
            obtain ⟨p0, p1, p2, p3, p4⟩ := VAt.of_blk Q8.out
            have zf := Q8.out.frozen
            go_simp
            have Q8' := Lib.hid (Q8.out.putV cw)
            have Q7' := Lib.hid (Q7.out.farV (b := W0.heap.size) (by omega) 0 cw)
            have RC' := Lib.hid (RC.out.keep (w' := setV W5 (W0.heap.size) 0 cw) fun b hb => heap_setV (by omega))
            have RE' := Lib.hid (RE.out.keep (w' := setV W5 (W0.heap.size) 0 cw) fun b hb => heap_setV (by omega))
            have B' := Lib.hid (below_setV B.out (b := W0.heap.size) (by omega) 0 cw)
            change K _ (setV W5 (W0.heap.size) 0 cw)
            generalize setV W5 (W0.heap.size) 0 cw = W6 at *
            clear p0 p1 p2 p3 p4 zf Q7 Q8 RC RE B
            have Q7 := Q7'
            have Q8 := Q8'
            have RC := RC'
            have RE := RE'
            have B := B'
            clear Q7' Q8' RC' RE' B'
            refine hK.out _ _ ?_ (fun hHeld2 => ?_)
            · (try dsimp only); exact KC.out _ (fun g hg => B.out.block g hg)
            clear hK K hHeld
            have hHeld := hHeld2
            clear hHeld2
            (try simp only [Act.put, List.setIfInBounds_toArray, List.set_cons_zero, List.set_cons_succ])
            refine wpAnyH_done (by kernel_rfl) ?_ _
            refine NoPanic.normal ?_
            go_wp2_with fail
            go_meet
            have l7 := Q7.out.lt
            have l8 := Q8.out.lt
            have lb := B.out.size
            have l1 := I2.out.2.1.lt
            exact ⟨W1.heap.size, W0.heap.size, cc, cw, rfl, rfl, ⟨I2.out.1.step B.out, I2.out.2.1.step B.out, Q7.out, Q8.out, l7, l8, by omega, RC.out.lt.mono fun b hb => hb.2, RE.out.lt.mono fun b hb => hb.2, I2.out.2.2.step' B.out⟩⟩
  case rest =>
    clear H2 E2 I2 Z2
    obtain ⟨g7, g8, cc, cw, rfl, rfl, I⟩ := hcut
    obtain ⟨L, hL⟩ : ∃ L, L = wc.heap.size := ⟨_, rfl⟩
    have J0 : Hid (OwI w c e cc cw x v g7 g8 L wc) := by rw [hL]; exact Lib.hid I
    have hp0 : 0 < L := by have := I.lw; omega
    have hLc : L ≤ wc.heap.size := by omega
    have hcL : wc.heap.size ≤ L := by omega
    clear I hL
    obtain ⟨a0, a1, a2, a3, a4⟩ := VAt.of_blk J0.out.b7
    obtain ⟨b0, b1, b2, b3, b4⟩ := VAt.of_blk J0.out.b8
    go_wp2_with fail
    refine (set_any x v cc cw name _ J0.out.rc' J0.out.rv' HN.out HBg.out).mono ?_
    rintro e1 wa ⟨ca, rfl, hra, hba⟩
    have J1 := Lib.hid (J0.out.step hba)
    have RA := Lib.hid hra
    have n1 : wc.heap.size ≤ wa.heap.size := hba.size
    clear hra hba a0 a1 a2 a3 a4 b0 b1 b2 b3 b4 J0
    go_upto_region 5 with fail
    have K1 := J1.out.step ((Below.refl wa.heap.size wa).alloc (Nat.le_refl _) (Obj.cells ca.arr 25))
    have KA : Blk (wa.alloc (Obj.cells ca.arr 25)) wa.heap.size 25 ca.arr := Blk.new_at rfl
    have KB := (Below.refl wa.heap.size wa).alloc (Nat.le_refl _) (Obj.cells ca.arr 25)
    change (Code.region 5 _ _).wp _ _ _ (wa.alloc (Obj.cells ca.arr 25))
    generalize wa.alloc (Obj.cells ca.arr 25) = wa2 at *
    have J2 := Lib.hid K1
    have A9 := Lib.hid KA
    have BA := Lib.hid KB
    have n2 : wa.heap.size < wa2.heap.size := KA.lt
    clear K1 KA KB J1
    obtain ⟨a0, a1, a2, a3, a4⟩ := VAt.of_blk J2.out.b7
    obtain ⟨b0, b1, b2, b3, b4⟩ := VAt.of_blk J2.out.b8
    go_wp2_with fail
    refine (set_any x v cc cw name _ J2.out.rc' J2.out.rv' HN.out HBg.out).mono ?_
    rintro e1 wb ⟨cb, rfl, hrb, hbb⟩
    have J3 := Lib.hid (J2.out.step hbb)
    have A93 := Lib.hid (A9.out.step hbb)
    have BA3 := Lib.hid (BA.out.step' hbb)
    have n3 : wa2.heap.size ≤ wb.heap.size := hbb.size
    have RB3 := Lib.hid hrb
    clear hrb hbb a0 a1 a2 a3 a4 b0 b1 b2 b3 b4 J2 A9 BA
    go_upto_region 6 with fail
    have K1 := J3.out.step ((Below.refl wb.heap.size wb).alloc (Nat.le_refl _) (Obj.cells cb.arr 25))
    have KA := A93.out.alloc (Obj.cells cb.arr 25)
    have KB := BA3.out.alloc BA3.out.size (Obj.cells cb.arr 25)
    have KR := RB3.out.alloc (Obj.cells cb.arr 25)
    have KC : Blk (wb.alloc (Obj.cells cb.arr 25)) wb.heap.size 25 cb.arr := Blk.new_at rfl
    change (Code.region 6 _ _).wp _ _ _ (wb.alloc (Obj.cells cb.arr 25))
    generalize wb.alloc (Obj.cells cb.arr 25) = wb2 at *
    have J4 := Lib.hid K1
    have A9 := Lib.hid KA
    have BA := Lib.hid KB
    have RB4 := Lib.hid KR
    have B10 := Lib.hid KC
    have n4 : wb.heap.size < wb2.heap.size := KC.lt
    generalize wb.heap.size = gB at *
    clear K1 KA KB KR KC J3 A93 BA3 RB3
    obtain ⟨a0, a1, a2, a3, a4⟩ := VAt.of_blk A9.out
    go_wp2_with fail
    refine (spoil_own _ ca wa wb2 wc.heap.size RA.out (by omega) BA.out).mono ?_
    rintro e1 ws ⟨rfl, hg⟩
    have J5 := Lib.hid (J4.out.gap hg (by omega) (by omega))
    have RB5 : Hid (RV (fun b => b < ws.heap.size) ws cb (setW x name v)) := Lib.hid ((hg.rv RB4.out fun b hb => .inr (by omega)).lt.mono fun b hb => hb.2)
    have B5 := Lib.hid (hg.blk B10.out (.inr (by omega)))
    have n5 : wb2.heap.size ≤ ws.heap.size := hg.size
    clear hg a0 a1 a2 a3 a4 J4 RB4 B10 A9 BA RA
    obtain ⟨a0, a1, a2, a3, a4⟩ := VAt.of_blk J5.out.b7
    go_wp2_with fail
    refine (get_any x cc name _ J5.out.rc').mono ?_
    rintro e1 wg ⟨cx, rfl, hrx, hbg⟩
    have J6 := Lib.hid (J5.out.step hbg)
    have RB6 := Lib.hid (RB5.out.step hbg)
    have B6 := Lib.hid (B5.out.step hbg)
    have RX := Lib.hid hrx
    have n6 : ws.heap.size ≤ wg.heap.size := hbg.size
    clear hrx hbg a0 a1 a2 a3 a4 J5 RB5 B5
    go_upto_region 8 with fail
    have K1 := J6.out.step ((Below.refl wg.heap.size wg).alloc (Nat.le_refl _) (Obj.cells cx.arr 25))
    have KA : Blk (wg.alloc (Obj.cells cx.arr 25)) wg.heap.size 25 cx.arr := Blk.new_at rfl
    have KB := (Below.refl wg.heap.size wg).alloc (Nat.le_refl _) (Obj.cells cx.arr 25)
    have KR := RB6.out.alloc (Obj.cells cx.arr 25)
    have KC := B6.out.alloc (Obj.cells cx.arr 25)
    change (Code.region 8 _ _).wp _ _ _ (wg.alloc (Obj.cells cx.arr 25))
    generalize wg.alloc (Obj.cells cx.arr 25) = wg2 at *
    have J7 := Lib.hid K1
    have A11 := Lib.hid KA
    have BG := Lib.hid KB
    have RB7 := Lib.hid KR
    have B7 := Lib.hid KC
    have n7 : wg.heap.size < wg2.heap.size := KA.lt
    clear K1 KA KB KR KC J6 RB6 B6
    obtain ⟨a0, a1, a2, a3, a4⟩ := VAt.of_blk A11.out
    go_wp2_with fail
    refine (spoil_own _ cx wg wg2 ws.heap.size RX.out (by omega) BG.out).mono ?_
    rintro e1 wh ⟨rfl, hg⟩
    have J8 := Lib.hid (J7.out.gap hg (by omega) (by omega))
    have RB8 := Lib.hid (hg.rv RB7.out fun b hb => .inl (by omega))
    have B8 := Lib.hid (hg.blk B7.out (.inl (by omega)))
    have n8 : wg2.heap.size ≤ wh.heap.size := hg.size
    clear hg a0 a1 a2 a3 a4 J7 RB7 B7 A11 BG RX
    obtain ⟨a0, a1, a2, a3, a4⟩ := VAt.of_blk J8.out.b7
    go_wp2_with fail
    refine (remove_any x cc name _ J8.out.rc').mono ?_
    rintro e1 wm ⟨cm, rfl, hrm, hbm⟩
    have J9 := Lib.hid (J8.out.step hbm)
    have RB9 := Lib.hid (RB8.out.step hbm)
    have B9 := Lib.hid (B8.out.step hbm)
    have RM := Lib.hid hrm
    have n9 : wh.heap.size ≤ wm.heap.size := hbm.size
    clear hrm hbm a0 a1 a2 a3 a4 J8 RB8 B8
    go_wp2_with fail
    refine (spoil_own _ cm wm wm wh.heap.size RM.out (by omega) (Below.refl _ _)).mono ?_
    rintro e1 wi ⟨rfl, hg⟩
    have J10 := Lib.hid (J9.out.gap hg (by omega) (by omega))
    have RB10 := Lib.hid (hg.rv RB9.out fun b hb => .inl (by omega))
    have B10 := Lib.hid (hg.blk B9.out (.inl (by omega)))
    have n10 : wm.heap.size ≤ wi.heap.size := hg.size
    clear hg J9 RB9 B9 RM
    obtain ⟨a0, a1, a2, a3, a4⟩ := VAt.of_blk J10.out.b7
    obtain ⟨b0, b1, b2, b3, b4⟩ := VAt.of_blk J10.out.b8
    have hal : Below wi.heap.size wi (wi.alloc (Obj.cells (flat recV [(cc, x), (cw, v)]).toArray 25)) := (Below.refl _ _).alloc (Nat.le_refl _) _
    have HAl := Lib.hid hal
    have n11 : wi.heap.size < (wi.alloc (Obj.cells (flat recV [(cc, x), (cw, v)]).toArray 25)).heap.size := by simp
    have J11 := Lib.hid (J10.out.step hal)
    have RB11 := Lib.hid (RB10.out.step hal)
    have B11 := Lib.hid (B10.out.step hal)
    have SLl : Hid (SL (fun _ => True) (wi.alloc (Obj.cells (flat recV [(cc, x), (cw, v)]).toArray 25)) (some ⟨wi.heap.size, 0, none⟩) 2 2 [(cc, x), (cw, v)]) :=
      Lib.hid (sl_list' (Blk.new_at rfl) rfl (by decide) (by intro p hp; simp only [List.mem_cons, List.not_mem_nil, or_false] at hp; rcases hp with rfl | rfl; exact J11.out.rc'; exact J11.out.rv'))
    clear hal J10 RB10 B10
    go_wp2_with fail
    refine (sortV_any [(cc, x), (cw, v)] (some ⟨wi.heap.size, 0, none⟩) 2 2 (wi.alloc (Obj.cells (flat recV [(cc, x), (cw, v)]).toArray 25)) SLl.out (by omega)).mono ?_
    rintro e1 wt ⟨A, n, cq, ps, rfl, _, hsl, hbt⟩
    generalize wi.alloc (Obj.cells (flat recV [(cc, x), (cw, v)]).toArray 25) = wj at *
    have J12 := Lib.hid (J11.out.step hbt)
    have RB12 := Lib.hid (RB11.out.step hbt)
    have B12 := Lib.hid (B11.out.step hbt)
    have n12 : wj.heap.size ≤ wt.heap.size := hbt.size
    have HS := Lib.hid hsl
    have HL := Lib.hid hsl.sr.ln
    have hnz : n * 80 ≤ 140737488355328 := hsl.sz
    clear hsl hbt a0 a1 a2 a3 a4 b0 b1 b2 b3 b4 J11 RB11 B11 SLl HAl
    go_wp2_with fail
    go_loopw [14] (fun v14 wr => ∃ i : Nat, i ≤ n ∧ v14 = .int .i64 i ∧ Spo (fun b => wj.heap.size ≤ b ∧ b < wt.heap.size ∧ Unf wt b) wt wr) (fun v14 _ => n - (intOf v14).toNat)
    case atStart => exact ⟨0, Nat.zero_le _, rfl, Spo.refl⟩
    case round =>
      obtain ⟨i, hi, rfl, I⟩ := hrel
      have J := Lib.hid I
      by_cases hlt : i < n
      · obtain ⟨p, hp⟩ : ∃ p, ps[i]? = some p := ⟨_, List.getElem?_eq_getElem (by have := HL.out; omega)⟩
        obtain ⟨b, off, rfl, _, hu, hr⟩ := HS.out.vat hp
        obtain ⟨b', off', e', hFt⟩ := HS.out.blk (by omega)
        cases e'
        have hFb : wj.heap.size ≤ b ∧ b < wt.heap.size ∧ Unf wt b := ⟨hFt.1, hu.lt, hFt.2 (by omega)⟩
        obtain ⟨u, hu', hsim⟩ := I.vat hFb hu
        have HR : Hid (RV (fun b => wj.heap.size ≤ b ∧ b < wt.heap.size ∧ Unf wt b) wt p.1 p.2) := Lib.hid (hr.unf (by omega))
        have HSm := Lib.hid hsim
        obtain ⟨y0, y1, y2, y3, y4⟩ := hu'
        have i0' : (0 : Int) ≤ (i : Int) := by omega
        have i1' : (i : Int) < (n : Int) := by omega
        clear hp hu hr hFt hFb hsim I
        go_wp2_with fail
        refine (spoil_any p.2 p.1 u 20 wt _ HR.out (fun b hb => ⟨hb.2.1, hb.2.2⟩) J.out HSm.out (by decide) (by decide)).mono ?_
        rintro e1 w2 ⟨rfl, hs2, _⟩
        have HI := Lib.hid hs2
        clear hs2 y0 y1 y2 y3 y4 J
        go_wp2_with fail
        go_roundw
        case rel => exact ⟨i + 1, by omega, by go_num, HI.out⟩
        case measure => simp [intOf]; omega
      · have hg : Gap wj.heap.size wt.heap.size wt wr := Gap.of_spo I fun b hb => ⟨hb.1, hb.2.1⟩
        have J13 := Lib.hid (J12.out.gap hg (by omega) (by omega))
        have RB13 := Lib.hid (hg.rv RB12.out fun b hb => .inl (by omega))
        have B13 := Lib.hid (hg.blk B12.out (.inl (by omega)))
        clear hg I J J12 RB12 B12
        go_upto_region 15 with fail
        obtain ⟨a0, a1, a2, a3, a4⟩ := VAt.of_blk J13.out.b7
        obtain ⟨p0, p1, p2, p3, p4⟩ := VAt.of_blk J13.out.b0
        obtain ⟨b0, b1, b2, b3, b4⟩ := VAt.of_blk J13.out.b8
        obtain ⟨q0, q1, q2, q3, q4⟩ := VAt.of_blk J13.out.b1
        obtain ⟨r0, r1, r2, r3, r4⟩ := VAt.of_blk B13.out
        have RC := Lib.hid (H.out.step J13.out.bel)
        have RE := Lib.hid (HE.out.step J13.out.bel)
        have RT := Lib.hid (HT.out.step J13.out.bel)
        have R7 := Lib.hid J13.out.rc'
        have R8 := Lib.hid J13.out.rv'
        have RB := Lib.hid (RB13.out.mono (G := fun _ => True) fun _ _ => trivial)
        have B := Lib.hid ((Below.refl wr.heap.size wr).drewN 1)
        have KS : Hid (∀ w', Below wr.heap.size wr w' → w'.cell? ⟨g7, 0, none⟩ = some (.int .i64 cc.k) ∧ w'.cell? ⟨g7, 1, none⟩ = some (.int .i64 cc.n) ∧ w'.cell? ⟨g7, 2, none⟩ = some (.string cc.t) ∧ w'.cell? ⟨g7, 3, none⟩ = some (.slice cc.LA cc.ln cc.lc) ∧ w'.cell? ⟨g7, 4, none⟩ = some (.slice cc.DA cc.dn cc.dc) ∧ w'.cell? ⟨w.heap.size, 0, none⟩ = some (.int .i64 c.k) ∧ w'.cell? ⟨w.heap.size, 1, none⟩ = some (.int .i64 c.n) ∧ w'.cell? ⟨w.heap.size, 2, none⟩ = some (.string c.t) ∧ w'.cell? ⟨w.heap.size, 3, none⟩ = some (.slice c.LA c.ln c.lc) ∧ w'.cell? ⟨w.heap.size, 4, none⟩ = some (.slice c.DA c.dn c.dc) ∧ w'.cell? ⟨g8, 0, none⟩ = some (.int .i64 cw.k) ∧ w'.cell? ⟨g8, 1, none⟩ = some (.int .i64 cw.n) ∧ w'.cell? ⟨g8, 2, none⟩ = some (.string cw.t) ∧ w'.cell? ⟨g8, 3, none⟩ = some (.slice cw.LA cw.ln cw.lc) ∧ w'.cell? ⟨g8, 4, none⟩ = some (.slice cw.DA cw.dn cw.dc) ∧ w'.cell? ⟨w.heap.size + 1, 0, none⟩ = some (.int .i64 e.k) ∧ w'.cell? ⟨w.heap.size + 1, 1, none⟩ = some (.int .i64 e.n) ∧ w'.cell? ⟨w.heap.size + 1, 2, none⟩ = some (.string e.t) ∧ w'.cell? ⟨w.heap.size + 1, 3, none⟩ = some (.slice e.LA e.ln e.lc) ∧ w'.cell? ⟨w.heap.size + 1, 4, none⟩ = some (.slice e.DA e.dn e.dc) ∧ w'.cell? ⟨gB, 0, none⟩ = some (.int .i64 cb.k) ∧ w'.cell? ⟨gB, 1, none⟩ = some (.int .i64 cb.n) ∧ w'.cell? ⟨gB, 2, none⟩ = some (.string cb.t) ∧ w'.cell? ⟨gB, 3, none⟩ = some (.slice cb.LA cb.ln cb.lc) ∧ w'.cell? ⟨gB, 4, none⟩ = some (.slice cb.DA cb.dn cb.dc)) := fun w' hb => ⟨hb.kc a0, hb.kc a1, hb.kc a2, hb.kc a3, hb.kc a4, hb.kc p0, hb.kc p1, hb.kc p2, hb.kc p3, hb.kc p4, hb.kc b0, hb.kc b1, hb.kc b2, hb.kc b3, hb.kc b4, hb.kc q0, hb.kc q1, hb.kc q2, hb.kc q3, hb.kc q4, hb.kc r0, hb.kc r1, hb.kc r2, hb.kc r3, hb.kc r4⟩
        go_region_held3 (fun w' => w'.cell? ⟨g7, 0, none⟩ = some (.int .i64 cc.k) ∧ w'.cell? ⟨g7, 1, none⟩ = some (.int .i64 cc.n) ∧ w'.cell? ⟨g7, 2, none⟩ = some (.string cc.t) ∧ w'.cell? ⟨g7, 3, none⟩ = some (.slice cc.LA cc.ln cc.lc) ∧ w'.cell? ⟨g7, 4, none⟩ = some (.slice cc.DA cc.dn cc.dc) ∧ w'.cell? ⟨w.heap.size, 0, none⟩ = some (.int .i64 c.k) ∧ w'.cell? ⟨w.heap.size, 1, none⟩ = some (.int .i64 c.n) ∧ w'.cell? ⟨w.heap.size, 2, none⟩ = some (.string c.t) ∧ w'.cell? ⟨w.heap.size, 3, none⟩ = some (.slice c.LA c.ln c.lc) ∧ w'.cell? ⟨w.heap.size, 4, none⟩ = some (.slice c.DA c.dn c.dc) ∧ w'.cell? ⟨g8, 0, none⟩ = some (.int .i64 cw.k) ∧ w'.cell? ⟨g8, 1, none⟩ = some (.int .i64 cw.n) ∧ w'.cell? ⟨g8, 2, none⟩ = some (.string cw.t) ∧ w'.cell? ⟨g8, 3, none⟩ = some (.slice cw.LA cw.ln cw.lc) ∧ w'.cell? ⟨g8, 4, none⟩ = some (.slice cw.DA cw.dn cw.dc) ∧ w'.cell? ⟨w.heap.size + 1, 0, none⟩ = some (.int .i64 e.k) ∧ w'.cell? ⟨w.heap.size + 1, 1, none⟩ = some (.int .i64 e.n) ∧ w'.cell? ⟨w.heap.size + 1, 2, none⟩ = some (.string e.t) ∧ w'.cell? ⟨w.heap.size + 1, 3, none⟩ = some (.slice e.LA e.ln e.lc) ∧ w'.cell? ⟨w.heap.size + 1, 4, none⟩ = some (.slice e.DA e.dn e.dc) ∧ w'.cell? ⟨gB, 0, none⟩ = some (.int .i64 cb.k) ∧ w'.cell? ⟨gB, 1, none⟩ = some (.int .i64 cb.n) ∧ w'.cell? ⟨gB, 2, none⟩ = some (.string cb.t) ∧ w'.cell? ⟨gB, 3, none⟩ = some (.slice cb.LA cb.ln cb.lc) ∧ w'.cell? ⟨gB, 4, none⟩ = some (.slice cb.DA cb.dn cb.dc))
          (first | exact KS.out _ B.out | go_keep)
          (first
            | (go_at_call 21; refine (rsame_eq _ cc c _ (R7.out.step B.out) (RC.out.step B.out)).mono ?_; rintro e3 w4 ⟨rfl, hb⟩; replace B := Lib.hid (B.out.step' hb); clear hb R7)
            | (go_at_call 21; refine (rsame_eq _ cw e _ (R8.out.step B.out) (RE.out.step B.out)).mono ?_; rintro e3 w5 ⟨rfl, hb⟩; replace B := Lib.hid (B.out.step' hb); clear hb R8)
            | (go_at_call 29; refine (rset_any x v c e name _ (RC.out.step B.out) (RE.out.step B.out) HN.out HBg.out).mono ?_; rintro e3 w6 ⟨cz, rfl, hrz, hb⟩; replace B := Lib.hid (B.out.step' hb); have RZ := Lib.hid hrz; clear hb hrz)
            | (go_at_call 21; refine (rsame_eq _ cb cz _ (RB.out.step B.out) RZ.out).mono ?_; rintro e3 w7 ⟨rfl, hb⟩; replace B := Lib.hid (B.out.step' hb); clear hb RB RZ)
            | (go_at_call 17; refine (awake_any _ (RT.out.step B.out)).mono ?_; rintro e3 w8 ⟨rfl, hb⟩; replace B := Lib.hid (B.out.step' hb); clear hb))
        all_goals
          go_wp2_with fail
          go_ret
          exact ⟨rfl, J13.out.bel.step' B.out⟩

end Go.Proofs.YtckeccfbadlhhaaDoor
