/- The walk of the law ValueOrder. -/
import Derived.Test.YtckeccfbadlhhaaDoorValAwake
import Derived.Test.YtckeccfbadlhhaaDoorValSame
import Derived.Test.YtckeccfbadlhhaaDoorValOpen
namespace Go.Proofs.YtckeccfbadlhhaaDoor
open Go.RowKit

/-- three boxes -/
structure OrI (w : World) (c d f : VC) (wr : World) : Prop where
  b0 : Blk wr w.heap.size 25 c.arr
  b1 : Blk wr (w.heap.size + 1) 25 d.arr
  b2 : Blk wr (w.heap.size + 1 + 1) 25 f.arr
  bel : Below w.heap.size w wr
theorem OrI.step {w : World} {c d f : VC} {wr w' : World} (h : OrI w c d f wr) (hb : Below wr.heap.size wr w') : OrI w c d f w' := ⟨h.b0.step hb, h.b1.step hb, h.b2.step hb, h.bel.step' hb⟩

theorem order_ways (x y z : Val) : (cmpV x y = -1 ∧ cmpV y z = -1 ∧ cmpV x z = -1) ∨ (cmpV x y = -1 ∧ cmpV y z = 0 ∧ cmpV x z = -1) ∨ (cmpV x y = -1 ∧ cmpV y z = 1 ∧ cmpV x z = -1) ∨ (cmpV x y = -1 ∧ cmpV y z = 1 ∧ cmpV x z = 0) ∨ (cmpV x y = -1 ∧ cmpV y z = 1 ∧ cmpV x z = 1) ∨
    (cmpV x y = 0 ∧ cmpV y z = -1 ∧ cmpV x z = -1) ∨ (cmpV x y = 0 ∧ cmpV y z = 0 ∧ cmpV x z = 0) ∨ (cmpV x y = 0 ∧ cmpV y z = 1 ∧ cmpV x z = 1) ∨
    (cmpV x y = 1 ∧ cmpV y z = -1 ∧ cmpV x z = -1) ∨ (cmpV x y = 1 ∧ cmpV y z = -1 ∧ cmpV x z = 0) ∨ (cmpV x y = 1 ∧ cmpV y z = -1 ∧ cmpV x z = 1) ∨ (cmpV x y = 1 ∧ cmpV y z = 0 ∧ cmpV x z = 1) ∨ (cmpV x y = 1 ∧ cmpV y z = 1 ∧ cmpV x z = 1) := by
  have r1 := cmpV_rng x y
  have r2 := cmpV_rng y z
  have r3 := cmpV_rng x z
  have t1 := cmpV_tr x y z
  have t2 := cmpV_tr z y x
  have a1 := cmpV_anti x y
  have a2 := cmpV_anti y z
  have a3 := cmpV_anti x z
  unfold TR at t1 t2
  rw [a1, a2, a3] at t2
  generalize cmpV x y = X at *
  generalize cmpV y z = Y at *
  generalize cmpV x z = Z at *
  have hX : X = -1 ∨ X = 0 ∨ X = 1 := by omega
  have hY : Y = -1 ∨ Y = 0 ∨ Y = 1 := by omega
  have hZ : Z = -1 ∨ Z = 0 ∨ Z = 1 := by omega
  clear r1 r2 r3 a1 a2 a3
  rcases hX with rfl | rfl | rfl <;> rcases hY with rfl | rfl | rfl <;> rcases hZ with rfl | rfl | rfl <;> first | (simp; done) | (exfalso; simp at t1 t2)
theorem same_of_valid {x y : Val} (h1 : validV x = true) (h2 : validV y = true) : sameV x y = (cmpV x y == 0) := by
  have s1 : SoundV nameB x := by unfold validV at h1; simp only [Bool.and_eq_true] at h1; exact soundB_iff.1 h1.2
  have s2 : SoundV nameB y := by unfold validV at h2; simp only [Bool.and_eq_true] at h2; exact soundB_iff.1 h2.2
  by_cases h : cmpV x y = 0
  · rw [sameV_true (cmpV_same x y s1 s2 h), h]; rfl
  · rw [sameV_false (fun e => h (by rw [e]; exact cmpV_self _))]
    simp [h]

set_option maxRecDepth 100000 in
set_option maxHeartbeats 8000000 in
theorem valueOrder_walk (c : VC) (x : Val) (d : VC) (y : Val) (f : VC) (z : Val) (w : World) (hT : Tabs w) (hx : RW w c x) (hy : RW w d y) (hz : RW w f z) :
    Calls Tryd.prog 5 #[c.val, d.val, f.val] w fun e w' => e = .returned (.bool true) ∧ Below w.heap.size w w' := by
  have I0 : Hid (OrI w c d f (((w.alloc (Obj.cells c.arr 25)).alloc (Obj.cells d.arr 25)).alloc (Obj.cells f.arr 25))) :=
    Lib.hid ⟨((Blk.new_at rfl).alloc _).alloc _, (Blk.new_at (by simp)).alloc _, Blk.new_at (by simp), (((Below.refl _ _).alloc (Nat.le_refl _) _).alloc (by simp) _).alloc (by simp; omega) _⟩
  have HX := Lib.hid hx
  have HY := Lib.hid hy
  have HZ := Lib.hid hz
  have HT := Lib.hid hT
  have HW := Lib.hid (order_ways x y z)
  have HS := Lib.hid (fun h1 h2 => same_of_valid (x := x) (y := y) h1 h2)
  have HA := Lib.hid (cmpV_anti x y)
  clear hx hy hz hT
  go_enter Tryd.func5, Tryd.ntmps5
  go_wp2_with fail
  generalize ((w.alloc (Obj.cells c.arr 25)).alloc (Obj.cells d.arr 25)).alloc (Obj.cells f.arr 25) = w1 at *
  have C0 : ∀ q : BW w1, q.val.cell? ⟨w.heap.size, 0, none⟩ = some (.int .i64 c.k) := fun q => q.cell (I0.out.b0.cell 0)
  have C1 : ∀ q : BW w1, q.val.cell? ⟨w.heap.size, 1, none⟩ = some (.int .i64 c.n) := fun q => q.cell (I0.out.b0.cell 1)
  have C2 : ∀ q : BW w1, q.val.cell? ⟨w.heap.size, 2, none⟩ = some (.string c.t) := fun q => q.cell (I0.out.b0.cell 2)
  have C3 : ∀ q : BW w1, q.val.cell? ⟨w.heap.size, 3, none⟩ = some (.slice c.LA c.ln c.lc) := fun q => q.cell (I0.out.b0.cell 3)
  have C4 : ∀ q : BW w1, q.val.cell? ⟨w.heap.size, 4, none⟩ = some (.slice c.DA c.dn c.dc) := fun q => q.cell (I0.out.b0.cell 4)
  have D0 : ∀ q : BW w1, q.val.cell? ⟨w.heap.size + 1, 0, none⟩ = some (.int .i64 d.k) := fun q => q.cell (I0.out.b1.cell 0)
  have D1 : ∀ q : BW w1, q.val.cell? ⟨w.heap.size + 1, 1, none⟩ = some (.int .i64 d.n) := fun q => q.cell (I0.out.b1.cell 1)
  have D2 : ∀ q : BW w1, q.val.cell? ⟨w.heap.size + 1, 2, none⟩ = some (.string d.t) := fun q => q.cell (I0.out.b1.cell 2)
  have D3 : ∀ q : BW w1, q.val.cell? ⟨w.heap.size + 1, 3, none⟩ = some (.slice d.LA d.ln d.lc) := fun q => q.cell (I0.out.b1.cell 3)
  have D4 : ∀ q : BW w1, q.val.cell? ⟨w.heap.size + 1, 4, none⟩ = some (.slice d.DA d.dn d.dc) := fun q => q.cell (I0.out.b1.cell 4)
  have F0 : ∀ q : BW w1, q.val.cell? ⟨w.heap.size + 1 + 1, 0, none⟩ = some (.int .i64 f.k) := fun q => q.cell (I0.out.b2.cell 0)
  have F1 : ∀ q : BW w1, q.val.cell? ⟨w.heap.size + 1 + 1, 1, none⟩ = some (.int .i64 f.n) := fun q => q.cell (I0.out.b2.cell 1)
  have F2 : ∀ q : BW w1, q.val.cell? ⟨w.heap.size + 1 + 1, 2, none⟩ = some (.string f.t) := fun q => q.cell (I0.out.b2.cell 2)
  have F3 : ∀ q : BW w1, q.val.cell? ⟨w.heap.size + 1 + 1, 3, none⟩ = some (.slice f.LA f.ln f.lc) := fun q => q.cell (I0.out.b2.cell 3)
  have F4 : ∀ q : BW w1, q.val.cell? ⟨w.heap.size + 1 + 1, 4, none⟩ = some (.slice f.DA f.dn f.dc) := fun q => q.cell (I0.out.b2.cell 4)
  have K1 : Hid (∀ q : BW w1, Calls Tryd.prog 19 #[c.val, d.val] q.val fun e w'' => e = .returned (.int .i64 (cmpV x y)) ∧ ∃ q : BW w1, w'' = q.val) := fun q =>
    Calls.bw (cmp_any x y c d q.val ((HX.out.step I0.out.bel).step q.below) ((HY.out.step I0.out.bel).step q.below))
  have K2 : Hid (∀ q : BW w1, Calls Tryd.prog 19 #[d.val, f.val] q.val fun e w'' => e = .returned (.int .i64 (cmpV y z)) ∧ ∃ q : BW w1, w'' = q.val) := fun q =>
    Calls.bw (cmp_any y z d f q.val ((HY.out.step I0.out.bel).step q.below) ((HZ.out.step I0.out.bel).step q.below))
  have K3 : Hid (∀ q : BW w1, Calls Tryd.prog 19 #[c.val, f.val] q.val fun e w'' => e = .returned (.int .i64 (cmpV x z)) ∧ ∃ q : BW w1, w'' = q.val) := fun q =>
    Calls.bw (cmp_any x z c f q.val ((HX.out.step I0.out.bel).step q.below) ((HZ.out.step I0.out.bel).step q.below))
  refine wp_region_bw (by kernel_rfl) (by kernel_rfl) ?_
  repeat (go_big_quiet_step (first | with_reducible exact K1.out _ | with_reducible exact K2.out _ | with_reducible exact K3.out _))
  refine wpQuiet_nil ?_
  rintro _ ⟨kw, rfl⟩
  have I1 := Lib.hid (I0.out.step kw.below)
  clear C0 C1 C2 C3 C4 D0 D1 D2 D3 D4 F0 F1 F2 F3 F4 K1 K2 K3 I0
  generalize kw.val = w2 at *
  have hw := HW.out
  rcases hw with ⟨h1, h2, h3⟩ | ⟨h1, h2, h3⟩ | ⟨h1, h2, h3⟩ | ⟨h1, h2, h3⟩ | ⟨h1, h2, h3⟩ | ⟨h1, h2, h3⟩ | ⟨h1, h2, h3⟩ | ⟨h1, h2, h3⟩ | ⟨h1, h2, h3⟩ | ⟨h1, h2, h3⟩ | ⟨h1, h2, h3⟩ | ⟨h1, h2, h3⟩ | ⟨h1, h2, h3⟩
  all_goals
    have HA' : Hid (cmpV y x = -(cmpV x y)) := HA.out
    have HS' : Hid (validV x = true → validV y = true → sameV x y = (cmpV x y == 0)) := HS.out
    rw [h1] at HA' HS'
    rw [h1, h2, h3]
    clear h1 h2 h3
    obtain ⟨a0, a1, a2, a3, a4⟩ := VAt.of_blk I1.out.b0
    obtain ⟨b0, b1, b2, b3, b4⟩ := VAt.of_blk I1.out.b1
    go_wp2_with fail
    refine (cmp_any y x d c _ (HY.out.step I1.out.bel) (HX.out.step I1.out.bel)).mono ?_
    rintro e w3 ⟨rfl, hb3⟩
    rw [HA'.out]
    have I3 := Lib.hid (I1.out.step hb3)
    clear hb3 a0 a1 a2 a3 a4 b0 b1 b2 b3 b4
    obtain ⟨a0, a1, a2, a3, a4⟩ := VAt.of_blk I3.out.b0
    go_wp2_with fail
    refine (cmp_any x x c c _ (HX.out.step I3.out.bel) (HX.out.step I3.out.bel)).mono ?_
    rintro e w4 ⟨rfl, hb4⟩
    rw [cmpV_self]
    have I4 := Lib.hid (I3.out.step hb4)
    clear hb4 a0 a1 a2 a3 a4
    obtain ⟨a0, a1, a2, a3, a4⟩ := VAt.of_blk I4.out.b0
    go_wp2_with fail
    refine (valid_any x c _ (HT.out.step I4.out.bel) (HX.out.step I4.out.bel)).mono ?_
    rintro e w5 ⟨rfl, hb5⟩
    have I5 := Lib.hid (I4.out.step hb5)
    clear hb5 a0 a1 a2 a3 a4
    obtain ⟨a0, a1, a2, a3, a4⟩ := VAt.of_blk I5.out.b0
    obtain ⟨b0, b1, b2, b3, b4⟩ := VAt.of_blk I5.out.b1
    cases hvx : validV x
    · clear a0 a1 a2 a3 a4 b0 b1 b2 b3 b4
      go_wp2_with fail
      refine (awake_any _ (HT.out.step I5.out.bel)).mono ?_
      rintro e w9 ⟨rfl, hb9⟩
      go_wp2_with fail
      go_ret
      exact ⟨rfl, I5.out.bel.step' hb9⟩
    · go_wp2_with fail
      refine (valid_any y d _ (HT.out.step I5.out.bel) (HY.out.step I5.out.bel)).mono ?_
      rintro e w6 ⟨rfl, hb6⟩
      have I6 := Lib.hid (I5.out.step hb6)
      clear hb6 a0 a1 a2 a3 a4 b0 b1 b2 b3 b4
      cases hvy : validV y
      · go_wp2_with fail
        refine (awake_any _ (HT.out.step I6.out.bel)).mono ?_
        rintro e w9 ⟨rfl, hb9⟩
        go_wp2_with fail
        go_ret
        exact ⟨rfl, I6.out.bel.step' hb9⟩
      · obtain ⟨a0, a1, a2, a3, a4⟩ := VAt.of_blk I6.out.b0
        obtain ⟨b0, b1, b2, b3, b4⟩ := VAt.of_blk I6.out.b1
        have HSS := Lib.hid (HS'.out hvx hvy)
        go_wp2_with fail
        refine (rsame_any x y c d _ (HX.out.step I6.out.bel) (HY.out.step I6.out.bel)).mono ?_
        rintro e w7 ⟨rfl, hb7⟩
        rw [HSS.out]
        have I7 := Lib.hid (I6.out.step hb7)
        clear hb7 a0 a1 a2 a3 a4 b0 b1 b2 b3 b4 hvx hvy
        go_wp2_with fail
        refine (awake_any _ (HT.out.step I7.out.bel)).mono ?_
        rintro e w9 ⟨rfl, hb9⟩
        go_wp2_with fail
        go_ret
        exact ⟨rfl, I7.out.bel.step' hb9⟩

end Go.Proofs.YtckeccfbadlhhaaDoor
