/- Parts of the proof, joined: ValEach, ValName, ValSoundPure, ValOrder, IvPure, RgEnds. -/
import Derived.Test.YtfkapannahcjiaaGreatDoorAp1
import Derived.IntWalk
import Derived.Shelf.Abstract
import Derived.Lib.ValidU
/- Contracts of value.each, value.nodes and value.depth. -/
namespace Go.Proofs.YtfkapannahcjiaaGreatDoor
open Go.RowKit

/-- what a call of the function that each was handed does -/
def EachStep (g : Nat) (Inv : Nat → World → Prop) (Fin : World → Prop) (i : Nat) (wr : World) (e : Ending) (w' : World) : Prop :=
  ∃ b, e = .returned (.bool b) ∧ But g wr w' ∧ (b = true → Inv (i + 1) w') ∧ (b = false → Fin w')
def EachEnd (g : Nat) (Fin : World → Prop) (w : World) (e : Ending) (w' : World) : Prop := e = .returned (.tuple #[]) ∧ But g w w' ∧ Fin w'

theorem RV.but {F : Nat → Prop} {g : Nat} {w w' : World} {c : VC} {x : Val} (h : RV (fun b => b ≠ g ∧ F b) w c x) (hb : But g w w') : RV (fun b => b ≠ g ∧ F b) w' c x :=
  h.keepG fun b hF hl => ⟨hF, hb.block b hl hF.1⟩

set_option maxRecDepth 100000 in
set_option maxHeartbeats 1000000 in
theorem each_any (f : FuncId) (g m : Nat) (x : Val) (c : VC) (w : World) (h : RV (fun b => b ≠ g) w c x) (Inv : Nat → World → Prop) (Fin : World → Prop)
    (hent : ∀ args w, (callFunc f args).run Tryz.prog w = .ok (.enter f args) w) (h0 : Inv 0 w) (hst : ∀ i w1 w2, Inv i w1 → Below w1.heap.size w1 w2 → Inv i w2)
    (hs : ∀ (i : Nat) (y : Val) (u : VC) (wr : World), x.parts[i]? = some y → Inv i wr → But g w wr → RW wr u y → Calls Tryz.prog f #[u.val, .pointer (some ⟨g, 0, none⟩), .pointer (some ⟨m, 0, none⟩)] wr (EachStep g Inv Fin i wr))
    (he : ∀ wr, Inv x.parts.length wr → Fin wr) :
    Calls Tryz.prog 158 #[c.val, .func (.func f) #[] #[.pointer (some ⟨g, 0, none⟩), .pointer (some ⟨m, 0, none⟩)]] w (EachEnd g Fin w) := by
  obtain ⟨ck, cn, ct, LA, ln, lc, DA, dn, dc⟩ := c
  have ho := h.open
  have hln : ln ≤ 140737488355328 := by have := ho.lsz; unfold reach at this; simp only at this; omega
  have hdn : dn ≤ 140737488355328 := by have := ho.dsz; unfold reach at this; simp only at this; omega
  have HO := Lib.hid ho
  have HS := Lib.hid hs
  have HE := Lib.hid he
  have H0 := Lib.hid (hst 0 w _ h0 ((Below.refl _ _).alloc (Nat.le_refl _) (Obj.cells #[.int .i64 ck, .int .i64 cn, .string ct, .slice LA ln lc, .slice DA dn dc] 29)))
  have HT := Lib.hid hst
  clear ho h hs he h0 hst
  cases h6 : (ck == 6)
  · cases h5 : (ck == 5)
    · have HP : Hid (x.parts.length = 0) := by
        have := HO.out.k
        simp only at this
        simp at h6 h5
        simp [Hid, Val.parts, ← this, h6, h5]
      go_enter Tryz.func158, Tryz.ntmps158
      go_wp2_with fail
      go_end0
      exact ⟨rfl, But.of_below ((Below.refl _ _).alloc (Nat.le_refl _) _), HE.out _ (by rw [HP.out]; exact H0.out)⟩
    · have HP : Hid (x.parts = x.d.map Fld.v) := by
        have := HO.out.k
        simp only at this
        simp at h5
        simp [Hid, Val.parts, ← this, h5]
      go_enter Tryz.func158, Tryz.ntmps158
      go_wp2_with fail
      go_loopw [29] (fun v29 wr => ∃ i : Nat, i ≤ dn ∧ v29 = .int .i64 i ∧ Inv i wr ∧ But g w wr) (fun v29 _ => dn - (intOf v29).toNat)
      case atStart => exact ⟨0, Nat.zero_le _, rfl, H0.out, But.of_below ((Below.refl _ _).alloc (Nat.le_refl _) _)⟩
      case round =>
        obtain ⟨i, hi, rfl, I1, I2⟩ := hrel
        have J1 := Lib.hid I1
        have J2 := Lib.hid I2
        by_cases hlt : i < dn
        · obtain ⟨b, off, hDA, hbg, hel⟩ := HO.out.da (by show 0 < dn; omega)
          obtain ⟨y, hy⟩ : ∃ y, x.d[i]? = some y := ⟨_, List.getElem?_eq_getElem (by have := HO.out.dn; simp only at this; omega)⟩
          obtain ⟨s0, hsz, u, hu, hr⟩ := hel i y hy
          simp only at hDA
          subst hDA
          obtain ⟨u0, u1, u2, u3, u4⟩ := hu.keep (I2.block b hu.lt hbg.1)
          have t0 := (I2.cell (p := ⟨b, off + i * 6, none⟩) hu.lt hbg.1).trans s0
          have hb : b < wr.heap.size := by have := hu.lt; have := I2.size; omega
          have HR := Lib.hid ((hr.keepG (G := fun _ => True) fun q hq hl => ⟨trivial, I2.block q hl hq⟩).alloc (Obj.cells #[.string y.s, .int .i64 u.k, .int .i64 u.n, .string u.t, .slice u.LA u.ln u.lc, .slice u.DA u.dn u.dc] 59))
          have HI := Lib.hid (HT.out i wr _ I1 ((Below.refl _ _).alloc (Nat.le_refl _) (Obj.cells #[.string y.s, .int .i64 u.k, .int .i64 u.n, .string u.t, .slice u.LA u.ln u.lc, .slice u.DA u.dn u.dc] 59)))
          have HB := Lib.hid (I2.step ((Below.refl _ _).alloc (Nat.le_refl _) (Obj.cells #[.string y.s, .int .i64 u.k, .int .i64 u.n, .string u.t, .slice u.LA u.ln u.lc, .slice u.DA u.dn u.dc] 59)))
          have HY : Hid (x.parts[i]? = some y.v) := by rw [Hid, HP.out, List.getElem?_map, hy]; rfl
          clear hel hr hu hy I1 I2 s0 hsz
          go_wp2_with fail
          refine (HS.out i y.v u _ HY.out HI.out HB.out HR.out).mono ?_
          rintro e w1 ⟨b1, rfl, hb1, ht, hf⟩
          cases b1
          · have HF := Lib.hid (hf rfl)
            have HB1 := Lib.hid (HB.out.trans hb1)
            clear ht hf hb1
            go_wp2_with fail
            go_end0
            exact ⟨rfl, HB1.out, HF.out⟩
          · have HF := Lib.hid (ht rfl)
            have HB1 := Lib.hid (HB.out.trans hb1)
            clear ht hf hb1
            go_wp2_with fail
            go_roundw
            case rel => exact ⟨i + 1, by omega, by go_num, HF.out, HB1.out⟩
            case measure => simp [intOf]; omega
        · obtain rfl : i = dn := by omega
          go_wp2_with fail
          go_end0
          exact ⟨rfl, J2.out, HE.out _ (by rw [HP.out, List.length_map]; have := HO.out.dn; simp only at this; rw [← this]; exact J1.out)⟩
  · have HP : Hid (x.parts = x.l) := by
      have := HO.out.k
      simp only at this
      simp at h6
      simp [Hid, Val.parts, ← this, h6]
    go_enter Tryz.func158, Tryz.ntmps158
    go_wp2_with fail
    go_loopw [15] (fun v15 wr => ∃ i : Nat, i ≤ ln ∧ v15 = .int .i64 i ∧ Inv i wr ∧ But g w wr) (fun v15 _ => ln - (intOf v15).toNat)
    case atStart => exact ⟨0, Nat.zero_le _, rfl, H0.out, But.of_below ((Below.refl _ _).alloc (Nat.le_refl _) _)⟩
    case round =>
      obtain ⟨i, hi, rfl, I1, I2⟩ := hrel
      have J1 := Lib.hid I1
      have J2 := Lib.hid I2
      by_cases hlt : i < ln
      · obtain ⟨b, off, hLA, hbg, hel⟩ := HO.out.la (by show 0 < ln; omega)
        obtain ⟨y, hy⟩ : ∃ y, x.l[i]? = some y := ⟨_, List.getElem?_eq_getElem (by have := HO.out.ln; simp only at this; omega)⟩
        obtain ⟨u, hu, hr⟩ := hel i y hy
        simp only at hLA
        subst hLA
        obtain ⟨u0, u1, u2, u3, u4⟩ := hu.keep (I2.block b hu.lt hbg.1)
        have hb : b < wr.heap.size := by have := hu.lt; have := I2.size; omega
        have HR := Lib.hid ((hr.keepG (G := fun _ => True) fun q hq hl => ⟨trivial, I2.block q hl hq⟩).alloc (Obj.cells u.arr 29))
        have HI := Lib.hid (HT.out i wr _ I1 ((Below.refl _ _).alloc (Nat.le_refl _) (Obj.cells u.arr 29)))
        have HB := Lib.hid (I2.step ((Below.refl _ _).alloc (Nat.le_refl _) (Obj.cells u.arr 29)))
        have HY : Hid (x.parts[i]? = some y) := by rw [Hid, HP.out]; exact hy
        clear hel hr hu hy I1 I2
        go_wp2_with fail
        refine (HS.out i y u _ HY.out HI.out HB.out HR.out).mono ?_
        rintro e w1 ⟨b1, rfl, hb1, ht, hf⟩
        cases b1
        · have HF := Lib.hid (hf rfl)
          have HB1 := Lib.hid (HB.out.trans hb1)
          clear ht hf hb1
          go_wp2_with fail
          go_end0
          exact ⟨rfl, HB1.out, HF.out⟩
        · have HF := Lib.hid (ht rfl)
          have HB1 := Lib.hid (HB.out.trans hb1)
          clear ht hf hb1
          go_wp2_with fail
          go_roundw
          case rel => exact ⟨i + 1, by omega, by go_num, HF.out, HB1.out⟩
          case measure => simp [intOf]; omega
      · obtain rfl : i = ln := by omega
        go_wp2_with fail
        go_end0
        exact ⟨rfl, J2.out, HE.out _ (by rw [HP.out]; have := HO.out.ln; simp only at this; rw [← this]; exact J1.out)⟩

theorem wrap_i64 {a : Int} (h1 : -9223372036854775808 ≤ a) (h2 : a ≤ 9223372036854775807) : IntKind.i64.wrap a = a := IntWalk.i64_in _ ⟨h1, h2⟩

/-- the contract of nodes at one value -/
def NodesAt (x : Val) : Prop := ∀ (c : VC) (most : Int) (w : World), RW w c x → 1 ≤ most → most ≤ 1025 →
    Calls Tryz.prog 129 #[c.val, .int .i64 most] w fun e w' => e = .returned (.int .i64 (nodesI x most)) ∧ Below w.heap.size w w'

set_option maxHeartbeats 1000000 in
theorem nodes1_any (y : Val) (ih : NodesAt y) (u : VC) (g m : Nat) (n most : Int) (w : World) (h : RW w u y) (hg : Blk w g 3 #[.int .i64 n]) (hm : Blk w m 3 #[.int .i64 most]) (hne : m ≠ g) (h1 : 1 ≤ n) (h2 : n < most) (h3 : most ≤ 1025) :
    Calls Tryz.prog 159 #[u.val, .pointer (some ⟨g, 0, none⟩), .pointer (some ⟨m, 0, none⟩)] w fun e w' => e = .returned (.bool (decide (n + nodesI y (most - n) < most))) ∧ But g w w' ∧ Blk w' g 3 #[.int .i64 (n + nodesI y (most - n))] := by
  have HG := Lib.hid (hg.alloc (Obj.cells u.arr 29))
  have HM := Lib.hid (hm.alloc (Obj.cells u.arr 29))
  have HU : Hid (Blk (w.alloc (Obj.cells u.arr 29)) w.heap.size 29 u.arr) := Blk.new_at rfl
  have H := Lib.hid (h.alloc (Obj.cells u.arr 29))
  have HB := Lib.hid ((Below.refl w.heap.size w).alloc (Nat.le_refl _) (Obj.cells u.arr 29))
  have IH := Lib.hid ih
  have hgl := hg.lt
  have hml := hm.lt
  have r1 : 1 ≤ nodesI y (most - n) ∧ nodesI y (most - n) ≤ most - n := by
    have := size_pos y
    unfold nodesI
    omega
  clear h hg hm ih
  go_enter Tryz.func159, Tryz.ntmps159
  go_wp2_with fail
  generalize w.alloc (Obj.cells u.arr 29) = w1 at *
  have E0 : ∀ q : BW w1, q.val.cell? ⟨g, 0, none⟩ = some (.int .i64 n) := fun q => q.cell (HG.out.cell 0)
  have E1 : ∀ q : BW w1, q.val.cell? ⟨m, 0, none⟩ = some (.int .i64 most) := fun q => q.cell (HM.out.cell 0)
  have E2 : ∀ q : BW w1, q.val.cell? ⟨w.heap.size, 0, none⟩ = some (.int .i64 u.k) := fun q => q.cell (HU.out.cell 0)
  have E3 : ∀ q : BW w1, q.val.cell? ⟨w.heap.size, 1, none⟩ = some (.int .i64 u.n) := fun q => q.cell (HU.out.cell 1)
  have E4 : ∀ q : BW w1, q.val.cell? ⟨w.heap.size, 2, none⟩ = some (.string u.t) := fun q => q.cell (HU.out.cell 2)
  have E5 : ∀ q : BW w1, q.val.cell? ⟨w.heap.size, 3, none⟩ = some (.slice u.LA u.ln u.lc) := fun q => q.cell (HU.out.cell 3)
  have E6 : ∀ q : BW w1, q.val.cell? ⟨w.heap.size, 4, none⟩ = some (.slice u.DA u.dn u.dc) := fun q => q.cell (HU.out.cell 4)
  have W1 : IntKind.i64.wrap (most - n) = most - n := wrap_i64 (by omega) (by omega)
  have W2 : IntKind.i64.wrap (n + nodesI y (most - n)) = n + nodesI y (most - n) := wrap_i64 (by omega) (by omega)
  have K1 : Hid (∀ q : BW w1, Calls Tryz.prog 129 #[u.val, .int .i64 (most - n)] q.val fun e w'' => e = .returned (.int .i64 (nodesI y (most - n))) ∧ ∃ q : BW w1, w'' = q.val) := fun q =>
    Calls.bw (IH.out u (most - n) q.val (H.out.step q.below) (by omega) (by omega))
  refine wp_region_bw_tail 7 (by kernel_rfl) (by kernel_rfl) ?_
  simp only [List.take_succ_cons, List.take_zero, List.drop_succ_cons, List.drop_zero]
  repeat (go_big_quiet_step (with_reducible exact K1.out _))
  refine wpQuiet_nil ?_
  rintro _ ⟨kw, rfl⟩
  have F0 := (HG.out.step kw.below).frozen 0
  have JG := Lib.hid ((HG.out.step kw.below).set_ 0 (.int .i64 (n + nodesI y (most - n))))
  have JB := Lib.hid ((But.of_below (g := g) (HB.out.step' kw.below)).set (p := ⟨g, 0, none⟩) rfl (.int .i64 (n + nodesI y (most - n))))
  have e0 := E0 kw
  have e1 := E1 kw
  have hnm : g ≠ m := fun e => hne e.symm
  clear E0 E1 E2 E3 E4 E5 E6 K1 W1 W2 HG HM HU H HB IH
  generalize kw.val = w2 at *
  go_wp2_with fail
  go_ret
  exact ⟨rfl, JB.out, JG.out⟩

/-- the contract of depth at one value -/
def DepthAt (x : Val) : Prop := ∀ (c : VC) (most : Int) (w : World), RW w c x → 1 ≤ most → most ≤ 17 →
    Calls Tryz.prog 130 #[c.val, .int .i64 most] w fun e w' => e = .returned (.int .i64 (depthI x most)) ∧ Below w.heap.size w w'

set_option maxHeartbeats 1000000 in
theorem depth1_any (y : Val) (ih : DepthAt y) (u : VC) (g m : Nat) (n most : Int) (w : World) (h : RW w u y) (hg : Blk w g 3 #[.int .i64 n]) (hm : Blk w m 3 #[.int .i64 most]) (hne : m ≠ g) (h1 : 0 ≤ n) (h2 : n < most - 1) (h3 : most ≤ 17) :
    Calls Tryz.prog 160 #[u.val, .pointer (some ⟨g, 0, none⟩), .pointer (some ⟨m, 0, none⟩)] w fun e w' => e = .returned (.bool (decide (max n (depthI y (most - 1)) < most - 1))) ∧ But g w w' ∧ Blk w' g 3 #[.int .i64 (max n (depthI y (most - 1)))] := by
  have HG := Lib.hid (hg.alloc (Obj.cells u.arr 29))
  have HM := Lib.hid (hm.alloc (Obj.cells u.arr 29))
  have HU : Hid (Blk (w.alloc (Obj.cells u.arr 29)) w.heap.size 29 u.arr) := Blk.new_at rfl
  have H := Lib.hid (h.alloc (Obj.cells u.arr 29))
  have HB := Lib.hid ((Below.refl w.heap.size w).alloc (Nat.le_refl _) (Obj.cells u.arr 29))
  have IH := Lib.hid ih
  have hgl := hg.lt
  have hml := hm.lt
  have r1 : 1 ≤ depthI y (most - 1) ∧ depthI y (most - 1) ≤ most - 1 := by
    have := height_pos y
    unfold depthI
    omega
  clear h hg hm ih
  by_cases hle : n < depthI y (most - 1)
  · have HX : Hid (max n (depthI y (most - 1)) = depthI y (most - 1)) := by unfold Hid; omega
    go_enter Tryz.func160, Tryz.ntmps160
    go_wp2_with fail
    generalize w.alloc (Obj.cells u.arr 29) = w1 at *
    have E0 : ∀ q : BW w1, q.val.cell? ⟨g, 0, none⟩ = some (.int .i64 n) := fun q => q.cell (HG.out.cell 0)
    have E1 : ∀ q : BW w1, q.val.cell? ⟨m, 0, none⟩ = some (.int .i64 most) := fun q => q.cell (HM.out.cell 0)
    have E2 : ∀ q : BW w1, q.val.cell? ⟨w.heap.size, 0, none⟩ = some (.int .i64 u.k) := fun q => q.cell (HU.out.cell 0)
    have E3 : ∀ q : BW w1, q.val.cell? ⟨w.heap.size, 1, none⟩ = some (.int .i64 u.n) := fun q => q.cell (HU.out.cell 1)
    have E4 : ∀ q : BW w1, q.val.cell? ⟨w.heap.size, 2, none⟩ = some (.string u.t) := fun q => q.cell (HU.out.cell 2)
    have E5 : ∀ q : BW w1, q.val.cell? ⟨w.heap.size, 3, none⟩ = some (.slice u.LA u.ln u.lc) := fun q => q.cell (HU.out.cell 3)
    have E6 : ∀ q : BW w1, q.val.cell? ⟨w.heap.size, 4, none⟩ = some (.slice u.DA u.dn u.dc) := fun q => q.cell (HU.out.cell 4)
    have W1 : IntKind.i64.wrap (most - 1) = most - 1 := wrap_i64 (by omega) (by omega)
    have K1 : Hid (∀ q : BW w1, Calls Tryz.prog 130 #[u.val, .int .i64 (most - 1)] q.val fun e w'' => e = .returned (.int .i64 (depthI y (most - 1))) ∧ ∃ q : BW w1, w'' = q.val) := fun q =>
      Calls.bw (IH.out u (most - 1) q.val (H.out.step q.below) (by omega) (by omega))
    refine wp_region_bw_tail 6 (by kernel_rfl) (by kernel_rfl) ?_
    simp only [List.take_succ_cons, List.take_zero, List.drop_succ_cons, List.drop_zero]
    repeat (go_big_quiet_step (with_reducible exact K1.out _))
    refine wpQuiet_nil ?_
    rintro _ ⟨kw, rfl⟩
    have F0 := (HG.out.step kw.below).frozen 0
    have JG := Lib.hid ((HG.out.step kw.below).set_ 0 (.int .i64 (depthI y (most - 1))))
    have JB := Lib.hid ((But.of_below (g := g) (HB.out.step' kw.below)).set (p := ⟨g, 0, none⟩) rfl (.int .i64 (depthI y (most - 1))))
    have e0 := E0 kw
    have e1 := E1 kw
    have hnm : g ≠ m := fun e => hne e.symm
    clear E0 E1 E2 E3 E4 E5 E6 K1 W1 HG HM HU H HB IH
    generalize kw.val = w2 at *
    go_wp2_with fail
    go_ret
    exact ⟨by rw [HX.out]; first | rfl | (rw [decide_eq_true h2]; rfl), JB.out, by rw [HX.out]; exact JG.out⟩
  · have HX : Hid (max n (depthI y (most - 1)) = n) := by unfold Hid; omega
    go_enter Tryz.func160, Tryz.ntmps160
    go_wp2_with fail
    generalize w.alloc (Obj.cells u.arr 29) = w1 at *
    have E0 : ∀ q : BW w1, q.val.cell? ⟨g, 0, none⟩ = some (.int .i64 n) := fun q => q.cell (HG.out.cell 0)
    have E1 : ∀ q : BW w1, q.val.cell? ⟨m, 0, none⟩ = some (.int .i64 most) := fun q => q.cell (HM.out.cell 0)
    have E2 : ∀ q : BW w1, q.val.cell? ⟨w.heap.size, 0, none⟩ = some (.int .i64 u.k) := fun q => q.cell (HU.out.cell 0)
    have E3 : ∀ q : BW w1, q.val.cell? ⟨w.heap.size, 1, none⟩ = some (.int .i64 u.n) := fun q => q.cell (HU.out.cell 1)
    have E4 : ∀ q : BW w1, q.val.cell? ⟨w.heap.size, 2, none⟩ = some (.string u.t) := fun q => q.cell (HU.out.cell 2)
    have E5 : ∀ q : BW w1, q.val.cell? ⟨w.heap.size, 3, none⟩ = some (.slice u.LA u.ln u.lc) := fun q => q.cell (HU.out.cell 3)
    have E6 : ∀ q : BW w1, q.val.cell? ⟨w.heap.size, 4, none⟩ = some (.slice u.DA u.dn u.dc) := fun q => q.cell (HU.out.cell 4)
    have W1 : IntKind.i64.wrap (most - 1) = most - 1 := wrap_i64 (by omega) (by omega)
    have K1 : Hid (∀ q : BW w1, Calls Tryz.prog 130 #[u.val, .int .i64 (most - 1)] q.val fun e w'' => e = .returned (.int .i64 (depthI y (most - 1))) ∧ ∃ q : BW w1, w'' = q.val) := fun q =>
      Calls.bw (IH.out u (most - 1) q.val (H.out.step q.below) (by omega) (by omega))
    refine wp_region_bw_tail 6 (by kernel_rfl) (by kernel_rfl) ?_
    simp only [List.take_succ_cons, List.take_zero, List.drop_succ_cons, List.drop_zero]
    repeat (go_big_quiet_step (with_reducible exact K1.out _))
    refine wpQuiet_nil ?_
    rintro _ ⟨kw, rfl⟩
    have F0 := (HG.out.step kw.below).frozen 0
    have JG := Lib.hid ((HG.out.step kw.below).set_ 0 (.int .i64 n))
    have JB := Lib.hid ((But.of_below (g := g) (HB.out.step' kw.below)).set (p := ⟨g, 0, none⟩) rfl (.int .i64 n))
    have e0 := E0 kw
    have e1 := E1 kw
    have hnm : g ≠ m := fun e => hne e.symm
    clear E0 E1 E2 E3 E4 E5 E6 K1 W1 HG HM HU H HB IH
    generalize kw.val = w2 at *
    go_wp2_with fail
    go_ret
    exact ⟨by rw [HX.out]; first | rfl | (rw [decide_eq_true h2]; rfl), JB.out, by rw [HX.out]; exact JG.out⟩

theorem Val.indP {p : Val → Prop} (h : ∀ x, (∀ y ∈ x.parts, p y) → p x) : ∀ x, p x := by
  intro x
  induction x using Val.ind with
  | h k n t l d ihl ihd =>
    refine h _ fun y hy => ?_
    unfold Val.parts at hy
    split at hy
    · exact ihl y hy
    · split at hy
      · obtain ⟨f, hf, rfl⟩ := List.mem_map.1 hy
        exact ihd f hf
      · simp at hy

def NInv (x : Val) (most : Int) (g m : Nat) (i : Nat) (wr : World) : Prop :=
  1 + (sizeL (x.parts.take i) : Int) < most ∧ Blk wr g 3 #[.int .i64 (1 + (sizeL (x.parts.take i) : Int))] ∧ Blk wr m 3 #[.int .i64 most]
theorem nodes_step {x y : Val} {i : Nat} {most : Int} (hy : x.parts[i]? = some y) :
    (decide (1 + (sizeL (x.parts.take i) : Int) + nodesI y (most - (1 + (sizeL (x.parts.take i) : Int))) < most) = true →
      1 + (sizeL (x.parts.take (i + 1)) : Int) < most ∧ 1 + (sizeL (x.parts.take i) : Int) + nodesI y (most - (1 + (sizeL (x.parts.take i) : Int))) = 1 + (sizeL (x.parts.take (i + 1)) : Int)) ∧
    (decide (1 + (sizeL (x.parts.take i) : Int) + nodesI y (most - (1 + (sizeL (x.parts.take i) : Int))) < most) = false →
      1 + (sizeL (x.parts.take i) : Int) + nodesI y (most - (1 + (sizeL (x.parts.take i) : Int))) = nodesI x most) := by
  have h1 := sizeL_snoc hy
  have h2 := sizeL_take x.parts (i + 1)
  have h3 := size_parts x
  unfold nodesI
  constructor
  · intro hd
    simp at hd
    omega
  · intro hd
    simp at hd
    omega

open Go.Shelf in
set_option maxHeartbeats 1000000 in
theorem nodes_any : ∀ x, NodesAt x := by
  refine Val.indP fun x ih => ?_
  intro c most w h h1 h2
  have hx := size_pos x
  cases hm : ((1 : Int) == most)
  · have hm' : 1 < most := by simp at hm; omega
    have H := Lib.hid h
    have IH := Lib.hid ih
    clear h ih
    go_enter Tryz.func129, Tryz.ntmps129
    go_wp2_with fail
    have B1 : Blk (((w.alloc (Obj.cells c.arr 29)).alloc (Obj.cells #[.int .i64 most] 3)).alloc (Obj.cells #[.int .i64 1] 3)) (w.heap.size + 1) 3 #[.int .i64 most] := (Blk.new_at (by simp)).alloc _
    have B2 : Blk (((w.alloc (Obj.cells c.arr 29)).alloc (Obj.cells #[.int .i64 most] 3)).alloc (Obj.cells #[.int .i64 1] 3)) (w.heap.size + 1 + 1) 3 #[.int .i64 1] := Blk.new_at (by simp)
    have B3 : Below w.heap.size w (((w.alloc (Obj.cells c.arr 29)).alloc (Obj.cells #[.int .i64 most] 3)).alloc (Obj.cells #[.int .i64 1] 3)) := (((Below.refl _ _).alloc (Nat.le_refl _) _).alloc (by simp) _).alloc (by simp; omega) _
    have B4 := H.out.lt.keepG (G := fun b => b ≠ w.heap.size + 1 + 1) (w' := (((w.alloc (Obj.cells c.arr 29)).alloc (Obj.cells #[.int .i64 most] 3)).alloc (Obj.cells #[.int .i64 1] 3))) fun b hb _ => ⟨by omega, B3.block b hb.2⟩
    have hsz : (((w.alloc (Obj.cells c.arr 29)).alloc (Obj.cells #[.int .i64 most] 3)).alloc (Obj.cells #[.int .i64 1] 3)).heap.size = w.heap.size + 3 := by simp
    refine (each_any 159 (w.heap.size + 1 + 1) (w.heap.size + 1) x c _ B4 (NInv x most (w.heap.size + 1 + 1) (w.heap.size + 1)) (fun wr => Blk wr (w.heap.size + 1 + 1) 3 #[.int .i64 (nodesI x most)]) (enters_of Tryz.func159 (by kernel_rfl) rfl) ⟨by simpa [sizeL] using hm', by simpa [sizeL] using B2, B1⟩ ?_ ?_ ?_).mono ?_
    · rintro i w1 w2 ⟨a, b, d⟩ hb
      exact ⟨a, b.step hb, d.step hb⟩
    · rintro i y u wr hy ⟨a, b, d⟩ hb hr
      obtain ⟨n1, n2⟩ := nodes_step (most := most) hy
      refine (nodes1_any y (IH.out y (List.mem_of_getElem? hy)) u _ _ _ most wr hr b d (by omega) (by omega) a h2).mono ?_
      rintro e w' ⟨rfl, k1, k2⟩
      refine ⟨_, rfl, k1, fun hd => ?_, fun hd => ?_⟩
      · obtain ⟨n3, n4⟩ := n1 hd
        rw [n4] at k2
        exact ⟨n3, k2, d.but k1 (by omega)⟩
      · rw [n2 hd] at k2
        exact k2
    · rintro wr ⟨a, b, d⟩
      rw [List.take_length] at a b
      have e : 1 + (sizeL x.parts : Int) = nodesI x most := by
        have := size_parts x
        unfold nodesI
        omega
      rw [e] at b
      exact b
    · rintro e w' ⟨rfl, hb, hf⟩
      have q := hf.cell 0
      simp at q
      have HB := Lib.hid (B3.trans (hb.below (by omega) (by omega)))
      clear B1 B2 B3 B4 hb hf H IH
      go_wp2_with fail
      go_ret
      exact ⟨rfl, HB.out⟩
  · obtain rfl : most = 1 := by simp at hm; omega
    clear h ih
    go_enter Tryz.func129, Tryz.ntmps129
    go_wp2_with fail
    go_ret
    refine ⟨?_, ((((Below.refl _ _).alloc (Nat.le_refl _) _).alloc (by simp) _).alloc (by simp; omega) _)⟩
    have e : nodesI x 1 = 1 := by unfold nodesI; omega
    rw [e]
    rfl

theorem ret_int {k : IntKind} {a b : Int} (h : a = b) : Ending.returned (.int k a) = .returned (.int k b) := by rw [h]
def DInv (x : Val) (most : Int) (g m : Nat) (i : Nat) (wr : World) : Prop :=
  (heightL (x.parts.take i) : Int) < most - 1 ∧ Blk wr g 3 #[.int .i64 (heightL (x.parts.take i) : Int)] ∧ Blk wr m 3 #[.int .i64 most]
theorem depth_step {x y : Val} {i : Nat} {most : Int} (hy : x.parts[i]? = some y) :
    (decide (max (heightL (x.parts.take i) : Int) (depthI y (most - 1)) < most - 1) = true →
      (heightL (x.parts.take (i + 1)) : Int) < most - 1 ∧ max (heightL (x.parts.take i) : Int) (depthI y (most - 1)) = (heightL (x.parts.take (i + 1)) : Int)) ∧
    (decide (max (heightL (x.parts.take i) : Int) (depthI y (most - 1)) < most - 1) = false → (heightL (x.parts.take i) : Int) < most - 1 →
      max (heightL (x.parts.take i) : Int) (depthI y (most - 1)) = depthI x most - 1) := by
  have h1 := heightL_snoc hy
  have h2 := heightL_take x.parts (i + 1)
  have h3 := height_parts x
  unfold depthI
  constructor
  · intro hd
    simp at hd
    omega
  · intro hd _
    simp at hd
    omega

open Go.Shelf in
set_option maxHeartbeats 1000000 in
theorem depth_any : ∀ x, DepthAt x := by
  refine Val.indP fun x ih => ?_
  intro c most w h h1 h2
  have hx := height_pos x
  cases hm : (most == 1)
  · have hm' : 1 < most := by simp at hm; omega
    have H := Lib.hid h
    have IH := Lib.hid ih
    clear h ih
    go_enter Tryz.func130, Tryz.ntmps130
    go_wp2_with fail
    have B1 : Blk (((w.alloc (Obj.cells c.arr 29)).alloc (Obj.cells #[.int .i64 most] 3)).alloc (Obj.cells #[.int .i64 0] 3)) (w.heap.size + 1) 3 #[.int .i64 most] := (Blk.new_at (by simp)).alloc _
    have B2 : Blk (((w.alloc (Obj.cells c.arr 29)).alloc (Obj.cells #[.int .i64 most] 3)).alloc (Obj.cells #[.int .i64 0] 3)) (w.heap.size + 1 + 1) 3 #[.int .i64 0] := Blk.new_at (by simp)
    have B3 : Below w.heap.size w (((w.alloc (Obj.cells c.arr 29)).alloc (Obj.cells #[.int .i64 most] 3)).alloc (Obj.cells #[.int .i64 0] 3)) := (((Below.refl _ _).alloc (Nat.le_refl _) _).alloc (by simp) _).alloc (by simp; omega) _
    have B4 := H.out.lt.keepG (G := fun b => b ≠ w.heap.size + 1 + 1) (w' := (((w.alloc (Obj.cells c.arr 29)).alloc (Obj.cells #[.int .i64 most] 3)).alloc (Obj.cells #[.int .i64 0] 3))) fun b hb _ => ⟨by omega, B3.block b hb.2⟩
    have hsz : (((w.alloc (Obj.cells c.arr 29)).alloc (Obj.cells #[.int .i64 most] 3)).alloc (Obj.cells #[.int .i64 0] 3)).heap.size = w.heap.size + 3 := by simp
    refine (each_any 160 (w.heap.size + 1 + 1) (w.heap.size + 1) x c _ B4 (DInv x most (w.heap.size + 1 + 1) (w.heap.size + 1)) (fun wr => Blk wr (w.heap.size + 1 + 1) 3 #[.int .i64 (depthI x most - 1)]) (enters_of Tryz.func160 (by kernel_rfl) rfl) ⟨by simp [heightL]; omega, by simpa [heightL] using B2, B1⟩ ?_ ?_ ?_).mono ?_
    · rintro i w1 w2 ⟨a, b, d⟩ hb
      exact ⟨a, b.step hb, d.step hb⟩
    · rintro i y u wr hy ⟨a, b, d⟩ hb hr
      obtain ⟨n1, n2⟩ := depth_step (most := most) hy
      refine (depth1_any y (IH.out y (List.mem_of_getElem? hy)) u _ _ _ most wr hr b d (by omega) (by omega) a h2).mono ?_
      rintro e w' ⟨rfl, k1, k2⟩
      refine ⟨_, rfl, k1, fun hd => ?_, fun hd => ?_⟩
      · obtain ⟨n3, n4⟩ := n1 hd
        rw [n4] at k2
        exact ⟨n3, k2, d.but k1 (by omega)⟩
      · rw [n2 hd a] at k2
        exact k2
    · rintro wr ⟨a, b, d⟩
      rw [List.take_length] at a b
      have e : (heightL x.parts : Int) = depthI x most - 1 := by
        have := height_parts x
        unfold depthI
        omega
      rw [e] at b
      exact b
    · rintro e w' ⟨rfl, hb, hf⟩
      have q := hf.cell 0
      simp at q
      have HB := Lib.hid (B3.trans (hb.below (by omega) (by omega)))
      clear B1 B2 B3 B4 hb hf H IH
      have r1 : 1 ≤ depthI x most ∧ depthI x most ≤ 17 := by unfold depthI; omega
      go_wp2_with fail
      go_ret
      exact ⟨ret_int (by omega), HB.out⟩
  · obtain rfl : most = 1 := by simp at hm; omega
    clear h ih
    go_enter Tryz.func130, Tryz.ntmps130
    go_wp2_with fail
    go_ret
    refine ⟨?_, (((Below.refl _ _).alloc (Nat.le_refl _) _).alloc (by simp) _)⟩
    have e : depthI x 1 = 1 := by unfold depthI; omega
    rw [e]
    rfl

end Go.Proofs.YtfkapannahcjiaaGreatDoor


/- Names: value.isName, and the reference's Name and wide. (Printed by gen_name.py.) -/
namespace Go.Proofs.YtfkapannahcjiaaGreatDoor
open Go.RowKit

def okB (b : UInt8) : Bool := decide (33 ≤ b.toNat) && decide (b.toNat ≤ 126) && !(b.toNat == 46)
def okW (b : UInt8) : Bool := decide (32 ≤ b.toNat) && decide (b.toNat ≤ 126)
/-- a name -/
def nameB (s : ByteArray) : Bool := decide (1 ≤ s.size) && decide (s.size ≤ 32) && !(s.data.toList.head?.map UInt8.toNat == some 36) && s.data.toList.all okB
/-- a name of a well-formed value -/
def wideB (s : ByteArray) : Bool := decide (1 ≤ s.size) && decide (s.size ≤ 128) && s.data.toList.all okW
theorem bytes_at (s : ByteArray) (i : Nat) (h : i < s.size) : s.data.toList[i]? = some s[i] := by
  rw [List.getElem?_eq_getElem (by simpa using h)]
  rfl
theorem all_next {p : UInt8 → Bool} {s : ByteArray} {i : Nat} (h : i < s.size) (ha : (s.data.toList.take i).all p = true) (hp : p s[i] = true) : (s.data.toList.take (i + 1)).all p = true := by
  rw [take_snoc' (bytes_at s i h), List.all_append, ha]
  simp [hp]
theorem all_not {p : UInt8 → Bool} {s : ByteArray} {i : Nat} (h : i < s.size) (hp : p s[i] = false) : s.data.toList.all p = false := by
  rw [List.all_eq_false]
  exact ⟨s[i], List.mem_of_getElem? (bytes_at s i h), by simp [hp]⟩
theorem all_end {p : UInt8 → Bool} {s : ByteArray} {i : Nat} (h : s.size ≤ i) (ha : (s.data.toList.take i).all p = true) : s.data.toList.all p = true := by
  rwa [List.take_of_length_le (by simpa using h)] at ha
theorem head_of (s : ByteArray) (h : 0 < s.size) : s.data.toList.head?.map UInt8.toNat = some s[0].toNat := by
  rw [List.head?_eq_getElem?, bytes_at s 0 h]
  rfl
theorem all_zero {p : UInt8 → Bool} {l : List UInt8} : (l.take 0).all p = true := by simp

set_option maxHeartbeats 1000000 in
theorem isName_any (s : ByteArray) (w : World) : Calls Tryz.prog 162 #[.string s] w fun e w' => e = .returned (.bool (nameB s)) ∧ w' = w := by
  by_cases h1 : s.size < 1
  · have HV : Hid (nameB s = false) := by unfold Hid nameB; rw [decide_eq_false (by omega)]; rfl
    go_enter Tryz.func162, Tryz.ntmps162
    go_wp2_with fail
    go_ret
    exact ⟨by rw [HV.out]; rfl, rfl⟩
  by_cases h2 : 32 < s.size
  · have HV : Hid (nameB s = false) := by unfold Hid nameB; rw [decide_eq_true (by omega), decide_eq_false (by omega)]; rfl
    go_enter Tryz.func162, Tryz.ntmps162
    go_wp2_with fail
    go_ret
    exact ⟨by rw [HV.out]; rfl, rfl⟩
  cases h3 : ((s[0].toNat : Int) == 36)
  rotate_left
  · have HV : Hid (nameB s = false) := by
      have : s[0].toNat = 36 := by simp at h3; omega
      unfold Hid nameB
      rw [decide_eq_true (by omega), decide_eq_true (by omega), head_of s (by omega), this]
      rfl
    go_enter Tryz.func162, Tryz.ntmps162
    go_wp2_with fail
    go_ret
    exact ⟨by rw [HV.out]; rfl, rfl⟩
  have HA : Hid (nameB s = s.data.toList.all okB) := by
    have : ¬ s[0].toNat = 36 := by simp at h3; omega
    unfold Hid nameB
    rw [decide_eq_true (by omega), decide_eq_true (by omega), head_of s (by omega)]
    simp [this]
  go_enter Tryz.func162, Tryz.ntmps162
  go_wp2_with fail
  go_loopw [19] (fun v wr => ∃ i : Nat, i ≤ s.size ∧ v = .int .i64 i ∧ (s.data.toList.take i).all okB = true ∧ wr = w) (fun v _ => s.size - (intOf v).toNat)
  case atStart => exact ⟨0, Nat.zero_le _, rfl, all_zero, rfl⟩
  case round =>
    obtain ⟨i, hi, rfl, ha, rfl⟩ := hrel
    have HL := Lib.hid ha
    clear ha
    by_cases hlt : i < s.size
    · have hx := s[i].toNat_lt
      by_cases hb : (s[i].toNat : Int) < 33
      · have HV : Hid (nameB s = false) := by rw [Hid, HA.out]; exact all_not hlt (by unfold okB; rw [decide_eq_false (by omega)]; rfl)
        go_wp2_with fail
        go_ret
        exact ⟨by rw [HV.out]; rfl, rfl⟩
      by_cases hc : 126 < (s[i].toNat : Int)
      · have HV : Hid (nameB s = false) := by rw [Hid, HA.out]; exact all_not hlt (by unfold okB; rw [decide_eq_true (by omega), decide_eq_false (by omega)]; rfl)
        go_wp2_with fail
        go_ret
        exact ⟨by rw [HV.out]; rfl, rfl⟩
      cases hd : ((s[i].toNat : Int) == 46)
      rotate_left
      · have HV : Hid (nameB s = false) := by
          have : s[i].toNat = 46 := by simp at hd; omega
          rw [Hid, HA.out]
          exact all_not hlt (by unfold okB; rw [this]; rfl)
        go_wp2_with fail
        go_ret
        exact ⟨by rw [HV.out]; rfl, rfl⟩
      have HN : Hid ((s.data.toList.take (i + 1)).all okB = true) := by
        have : ¬ s[i].toNat = 46 := by simp at hd; omega
        exact all_next hlt HL.out (by unfold okB; rw [decide_eq_true (by omega), decide_eq_true (by omega)]; simp [this])
      go_wp2_with fail
      go_roundw
      case rel => exact ⟨i + 1, by omega, by go_num, HN.out, trivial⟩
      case measure => simp [intOf]; omega
    · have HV : Hid (nameB s = true) := by rw [Hid, HA.out]; exact all_end (by omega) HL.out
      go_wp2_with fail
      go_ret
      exact ⟨by rw [HV.out]; rfl, rfl⟩

set_option maxHeartbeats 1000000 in
theorem rname_any (s : ByteArray) (w : World) : Calls Tryz.prog 101 #[.string s] w fun e w' => e = .returned (.bool (nameB s)) ∧ w' = w := by
  by_cases h1 : s.size < 1
  · have HV : Hid (nameB s = false) := by unfold Hid nameB; rw [decide_eq_false (by omega)]; rfl
    go_enter Tryz.func101, Tryz.ntmps101
    go_wp2_with fail
    go_ret
    exact ⟨by rw [HV.out]; rfl, rfl⟩
  by_cases h2 : 32 < s.size
  · have HV : Hid (nameB s = false) := by unfold Hid nameB; rw [decide_eq_true (by omega), decide_eq_false (by omega)]; rfl
    go_enter Tryz.func101, Tryz.ntmps101
    go_wp2_with fail
    go_ret
    exact ⟨by rw [HV.out]; rfl, rfl⟩
  cases h3 : ((s[0].toNat : Int) == 36)
  rotate_left
  · have HV : Hid (nameB s = false) := by
      have : s[0].toNat = 36 := by simp at h3; omega
      unfold Hid nameB
      rw [decide_eq_true (by omega), decide_eq_true (by omega), head_of s (by omega), this]
      rfl
    go_enter Tryz.func101, Tryz.ntmps101
    go_wp2_with fail
    go_ret
    exact ⟨by rw [HV.out]; rfl, rfl⟩
  have HA : Hid (nameB s = s.data.toList.all okB) := by
    have : ¬ s[0].toNat = 36 := by simp at h3; omega
    unfold Hid nameB
    rw [decide_eq_true (by omega), decide_eq_true (by omega), head_of s (by omega)]
    simp [this]
  go_enter Tryz.func101, Tryz.ntmps101
  go_wp2_with fail
  go_loopw [3] (fun v wr => ∃ i : Nat, i ≤ s.size ∧ v = .int .i64 i ∧ (s.data.toList.take i).all okB = true ∧ wr = w) (fun v _ => s.size - (intOf v).toNat)
  case atStart => exact ⟨0, Nat.zero_le _, rfl, all_zero, rfl⟩
  case round =>
    obtain ⟨i, hi, rfl, ha, rfl⟩ := hrel
    have HL := Lib.hid ha
    clear ha
    by_cases hlt : i < s.size
    · have hx := s[i].toNat_lt
      by_cases hb : (s[i].toNat : Int) < 33
      · have HV : Hid (nameB s = false) := by rw [Hid, HA.out]; exact all_not hlt (by unfold okB; rw [decide_eq_false (by omega)]; rfl)
        go_wp2_with fail
        go_ret
        exact ⟨by rw [HV.out]; rfl, rfl⟩
      by_cases hc : 126 < (s[i].toNat : Int)
      · have HV : Hid (nameB s = false) := by rw [Hid, HA.out]; exact all_not hlt (by unfold okB; rw [decide_eq_true (by omega), decide_eq_false (by omega)]; rfl)
        go_wp2_with fail
        go_ret
        exact ⟨by rw [HV.out]; rfl, rfl⟩
      cases hd : ((s[i].toNat : Int) == 46)
      rotate_left
      · have HV : Hid (nameB s = false) := by
          have : s[i].toNat = 46 := by simp at hd; omega
          rw [Hid, HA.out]
          exact all_not hlt (by unfold okB; rw [this]; rfl)
        go_wp2_with fail
        go_ret
        exact ⟨by rw [HV.out]; rfl, rfl⟩
      have HN : Hid ((s.data.toList.take (i + 1)).all okB = true) := by
        have : ¬ s[i].toNat = 46 := by simp at hd; omega
        exact all_next hlt HL.out (by unfold okB; rw [decide_eq_true (by omega), decide_eq_true (by omega)]; simp [this])
      go_wp2_with fail
      go_roundw
      case rel => exact ⟨i + 1, by omega, by go_num, HN.out, trivial⟩
      case measure => simp [intOf]; omega
    · have HV : Hid (nameB s = true) := by rw [Hid, HA.out]; exact all_end (by omega) HL.out
      go_wp2_with fail
      go_ret
      exact ⟨by rw [HV.out]; rfl, rfl⟩

end Go.Proofs.YtfkapannahcjiaaGreatDoor


/- Sound values in plain words. -/
namespace Go.Proofs.YtfkapannahcjiaaGreatDoor

def utf8B (t : ByteArray) : Bool := Lib.validD t.data.toList
/-- the conditions of a value's kind -/
def HeadP (k n : Int) (t : ByteArray) (ln dn : Nat) : Prop :=
  (k = 3 ∨ k = 9 ∨ k = 10 ∨ n = 0) ∧ (k = 4 ∨ k = 7 ∨ k = 8 ∨ t.size = 0) ∧ (k = 6 ∨ ln = 0) ∧ (k = 5 ∨ dn = 0) ∧
  (k = 1 ∨ k = 2 ∨ k = 11 ∨ k = 3 ∨ (k = 9 ∧ (n = 0 ∨ n = 1)) ∨ (k = 10 ∧ 0 ≤ n) ∨ (k = 4 ∧ t.size ≤ 4096 ∧ utf8B t = true) ∨ (k = 7 ∧ t.size ≤ 4096) ∨ (k = 8 ∧ t.size = 12) ∨ k = 6 ∨ k = 5)
/-- distinct names -/
def NamesP (nm : ByteArray → Bool) (d : List Fld) : Prop := (∀ f ∈ d, nm f.s = true) ∧ (d.map Fld.s).Nodup
mutual
def SoundV (nm : ByteArray → Bool) : Val → Prop
  | .mk k n t l d => HeadP k n t l.length d.length ∧ SoundLs nm l ∧ SoundDs nm d ∧ NamesP nm d
def SoundLs (nm : ByteArray → Bool) : List Val → Prop
  | [] => True
  | x :: r => SoundV nm x ∧ SoundLs nm r
def SoundDs (nm : ByteArray → Bool) : List Fld → Prop
  | [] => True
  | f :: r => SoundF nm f ∧ SoundDs nm r
def SoundF (nm : ByteArray → Bool) : Fld → Prop
  | .mk _ v => SoundV nm v
end
theorem SoundLs_iff (nm : ByteArray → Bool) (l : List Val) : SoundLs nm l ↔ ∀ y ∈ l, SoundV nm y := by
  induction l with
  | nil => simp [SoundLs]
  | cons x r ih => simp [SoundLs, ih]
theorem SoundF_iff (nm : ByteArray → Bool) (f : Fld) : SoundF nm f ↔ SoundV nm f.v := by cases f; simp only [SoundF]; rfl
theorem SoundDs_iff (nm : ByteArray → Bool) (d : List Fld) : SoundDs nm d ↔ ∀ f ∈ d, SoundV nm f.v := by
  induction d with
  | nil => simp [SoundDs]
  | cons x r ih => simp [SoundDs, ih, SoundF_iff]
theorem SoundV_iff (nm : ByteArray → Bool) (x : Val) : SoundV nm x ↔ HeadP x.k x.n x.t x.l.length x.d.length ∧ (∀ y ∈ x.l, SoundV nm y) ∧ (∀ f ∈ x.d, SoundV nm f.v) ∧ NamesP nm x.d := by
  cases x
  rw [SoundV, SoundLs_iff, SoundDs_iff]
  rfl
/-- the fields of a document -/
def FieldsP (nm : ByteArray → Bool) (d : List Fld) : Prop := NamesP nm d ∧ ∀ f ∈ d, SoundV nm f.v
noncomputable def soundB (nm : ByteArray → Bool) (x : Val) : Bool := @decide (SoundV nm x) (Classical.propDecidable _)
noncomputable def fieldsB (nm : ByteArray → Bool) (d : List Fld) : Bool := @decide (FieldsP nm d) (Classical.propDecidable _)
section
variable {nm : ByteArray → Bool} {x : Val} {d : List Fld}
theorem soundB_true (h : SoundV nm x) : soundB nm x = true := by unfold soundB; exact @decide_eq_true _ (Classical.propDecidable _) h
theorem soundB_false (h : ¬ SoundV nm x) : soundB nm x = false := by unfold soundB; exact @decide_eq_false _ (Classical.propDecidable _) h
theorem soundB_iff : soundB nm x = true ↔ SoundV nm x := by unfold soundB; exact @decide_eq_true_iff _ (Classical.propDecidable _)
theorem soundB_not : soundB nm x = false ↔ ¬ SoundV nm x := by unfold soundB; exact @decide_eq_false_iff_not _ (Classical.propDecidable _)
theorem fieldsB_true (h : FieldsP nm d) : fieldsB nm d = true := by unfold fieldsB; exact @decide_eq_true _ (Classical.propDecidable _) h
theorem fieldsB_false (h : ¬ FieldsP nm d) : fieldsB nm d = false := by unfold fieldsB; exact @decide_eq_false _ (Classical.propDecidable _) h
/-- the fields before i are sound -/
theorem FieldsP.nil : FieldsP nm [] := ⟨⟨by simp, by simp⟩, by simp⟩
theorem FieldsP.next {i : Nat} {f : Fld} (h : FieldsP nm (d.take i)) (hf : d[i]? = some f) (h1 : nm f.s = true) (h2 : f.s ∉ (d.take i).map Fld.s) (h3 : SoundV nm f.v) : FieldsP nm (d.take (i + 1)) := by
  rw [take_snoc' hf]
  refine ⟨⟨fun g hg => ?_, ?_⟩, fun g hg => ?_⟩
  · rcases List.mem_append.1 hg with hg | hg
    · exact h.1.1 g hg
    · simp at hg; subst hg; exact h1
  · rw [List.map_append, List.nodup_append]
    refine ⟨h.1.2, by simp, fun a ha b hb => ?_⟩
    simp at hb
    subst hb
    intro e
    subst e
    exact h2 ha
  · rcases List.mem_append.1 hg with hg | hg
    · exact h.2 g hg
    · simp at hg; subst hg; exact h3
theorem FieldsP.not_name {i : Nat} {f : Fld} (hf : d[i]? = some f) (h1 : nm f.s = false) : ¬ FieldsP nm d := fun h => by
  have := h.1.1 f (List.mem_of_getElem? hf)
  rw [h1] at this
  cases this
theorem FieldsP.not_sound {i : Nat} {f : Fld} (hf : d[i]? = some f) (h1 : ¬ SoundV nm f.v) : ¬ FieldsP nm d := fun h => h1 (h.2 f (List.mem_of_getElem? hf))
theorem FieldsP.not_new {i : Nat} {f : Fld} (hf : d[i]? = some f) (h1 : f.s ∈ (d.take i).map Fld.s) : ¬ FieldsP nm d := fun h => by
  have hn := h.1.2
  have e : d = d.take i ++ f :: d.drop (i + 1) := by rw [← drop_of hf, List.take_append_drop]
  rw [e, List.map_append, List.nodup_append] at hn
  exact hn.2.2 f.s h1 f.s (by simp) rfl
end
/-- a document's value -/
theorem sound_doc {nm : ByteArray → Bool} {x : Val} (hk : x.k = 5) (hh : HeadP x.k x.n x.t x.l.length x.d.length) : soundB nm x = fieldsB nm x.d := by
  have hl : x.l = [] := List.eq_nil_of_length_eq_zero (by have := hh.2.2.1; omega)
  by_cases h : FieldsP nm x.d
  · rw [fieldsB_true h]
    exact soundB_true ((SoundV_iff nm x).2 ⟨hh, by simp [hl], h.2, h.1⟩)
  · rw [fieldsB_false h]
    exact soundB_false fun hs => h ⟨((SoundV_iff nm x).1 hs).2.2.2, ((SoundV_iff nm x).1 hs).2.2.1⟩
theorem sound_list {nm : ByteArray → Bool} {x : Val} (hk : x.k = 6) (hh : HeadP x.k x.n x.t x.l.length x.d.length) (h : ∀ y ∈ x.l, SoundV nm y) : soundB nm x = true := by
  have hd : x.d = [] := List.eq_nil_of_length_eq_zero (by have := hh.2.2.2.1; omega)
  exact soundB_true ((SoundV_iff nm x).2 ⟨hh, h, by simp [hd], by simp [hd, NamesP]⟩)
theorem sound_not {nm : ByteArray → Bool} {x : Val} (h : ¬ HeadP x.k x.n x.t x.l.length x.d.length) : soundB nm x = false := soundB_false fun hs => h ((SoundV_iff nm x).1 hs).1
theorem sound_not_at {nm : ByteArray → Bool} {x : Val} {i : Nat} {y : Val} (hy : x.l[i]? = some y) (h : ¬ SoundV nm y) : soundB nm x = false := soundB_false fun hs => h (((SoundV_iff nm x).1 hs).2.1 y (List.mem_of_getElem? hy))
theorem sound_leaf {nm : ByteArray → Bool} {x : Val} (h5 : x.k ≠ 5) (h6 : x.k ≠ 6) (hh : HeadP x.k x.n x.t x.l.length x.d.length) : soundB nm x = true := by
  have hl : x.l = [] := List.eq_nil_of_length_eq_zero (by have := hh.2.2.1; omega)
  have hd : x.d = [] := List.eq_nil_of_length_eq_zero (by have := hh.2.2.2.1; omega)
  exact soundB_true ((SoundV_iff nm x).2 ⟨hh, by simp [hl], by simp [hd], by simp [hd, NamesP]⟩)

/-- valid values -/
noncomputable def validV (x : Val) : Bool := decide (x.size ≤ 1024) && decide (x.height ≤ 16) && soundB nameB x
end Go.Proofs.YtfkapannahcjiaaGreatDoor


/- The order of values is total; valid values that compare equal are identical. -/
namespace Go.Proofs.YtfkapannahcjiaaGreatDoor

def lex (c d : Int) : Int := if c ≠ 0 then c else d
theorem lex_ways (c d : Int) : c ≠ 0 ∧ lex c d = c ∨ c = 0 ∧ lex c d = d := by
  unfold lex
  by_cases h : c = 0
  · exact .inr ⟨h, by simp [h]⟩
  · exact .inl ⟨h, by simp [h]⟩
theorem TR.lx {a b c a' b' c' : Int} (h : TR a b c) (h' : TR a' b' c') : TR (lex a a') (lex b b') (lex c c') := by
  intro h1 h2
  rcases lex_ways a a' with ha | ha <;> rcases lex_ways b b' with hb | hb <;> rcases lex_ways c c' with hc | hc
  all_goals
    have H := h (by omega) (by omega)
    by_cases hab : a = 0 ∧ b = 0
    · have H' := h' (by omega) (by omega)
      omega
    · omega
theorem cmpI_rng (a b : Int) : -1 ≤ cmpI a b ∧ cmpI a b ≤ 1 := by unfold cmpI Lib.compareInt; repeat' split <;> omega
theorem cmpI_anti (a b : Int) : cmpI b a = -cmpI a b := by unfold cmpI Lib.compareInt; repeat' split <;> omega
theorem cmpI_ways (a b : Int) : a < b ∧ cmpI a b = -1 ∨ a = b ∧ cmpI a b = 0 ∨ b < a ∧ cmpI a b = 1 := by unfold cmpI Lib.compareInt; repeat' split <;> omega
theorem cmpI_tr (a b c : Int) : TR (cmpI a b) (cmpI b c) (cmpI a c) := by
  unfold TR
  intro h1 h2
  rcases cmpI_ways a b with h | h | h <;> rcases cmpI_ways b c with h' | h' | h' <;> rcases cmpI_ways a c with h3 | h3 | h3 <;> omega
theorem cmpI_zero {a b : Int} : cmpI a b = 0 ↔ a = b := by unfold cmpI Lib.compareInt; repeat' split <;> omega
theorem cmpBy_rng : ∀ a b : List UInt8, -1 ≤ Lib.compareBytes a b ∧ Lib.compareBytes a b ≤ 1
  | [], [] => by simp [Lib.compareBytes]
  | [], _ :: _ => by simp [Lib.compareBytes]
  | _ :: _, [] => by simp [Lib.compareBytes]
  | a :: a2, b :: b2 => by
    rw [Lib.compareBytes]
    repeat' split
    · omega
    · omega
    · exact cmpBy_rng a2 b2
theorem cmpBy_lex (a b : UInt8) (l m : List UInt8) : Lib.compareBytes (a :: l) (b :: m) = lex (cmpI (a.toNat : Int) (b.toNat : Int)) (Lib.compareBytes l m) := by
  rw [Lib.compareBytes]
  unfold cmpI Lib.compareInt lex
  have e1 : a < b ↔ a.toNat < b.toNat := UInt8.lt_iff_toNat_lt
  have e2 : b < a ↔ b.toNat < a.toNat := UInt8.lt_iff_toNat_lt
  rcases Nat.lt_trichotomy a.toNat b.toNat with h | h | h
  · rw [if_pos (e1.2 h), if_pos (show (a.toNat : Int) < b.toNat by omega)]; rfl
  · rw [if_neg (by rw [e1]; omega), if_neg (by rw [e2]; omega), if_neg (show ¬ (a.toNat : Int) < b.toNat by omega), if_neg (show ¬ (a.toNat : Int) > b.toNat by omega)]; rfl
  · rw [if_neg (by rw [e1]; omega), if_pos (e2.2 h), if_neg (show ¬ (a.toNat : Int) < b.toNat by omega), if_pos (show (a.toNat : Int) > b.toNat by omega)]; rfl
theorem lex_anti {c d c' d' : Int} (h : c' = -c) (h' : d' = -d) : lex c' d' = -lex c d := by unfold lex; repeat' split <;> omega
theorem lex_rng {c d : Int} (h : -1 ≤ c ∧ c ≤ 1) (h' : -1 ≤ d ∧ d ≤ 1) : -1 ≤ lex c d ∧ lex c d ≤ 1 := by unfold lex; split <;> omega
theorem lex_zero {c d : Int} : lex c d = 0 ↔ c = 0 ∧ d = 0 := by unfold lex; split <;> omega
theorem cmpBy_anti : ∀ a b : List UInt8, Lib.compareBytes b a = -Lib.compareBytes a b
  | [], [] => by simp [Lib.compareBytes]
  | [], _ :: _ => by simp [Lib.compareBytes]
  | _ :: _, [] => by simp [Lib.compareBytes]
  | a :: a2, b :: b2 => by rw [cmpBy_lex, cmpBy_lex]; exact lex_anti (cmpI_anti _ _) (cmpBy_anti a2 b2)
theorem cmpBy_tr : ∀ a b c : List UInt8, TR (Lib.compareBytes a b) (Lib.compareBytes b c) (Lib.compareBytes a c)
  | [], [], [] => by simp [Lib.compareBytes, TR]
  | [], [], _ :: _ => by simp [Lib.compareBytes, TR]
  | [], _ :: _, [] => by simp [Lib.compareBytes, TR]
  | [], _ :: _, _ :: _ => by simp [Lib.compareBytes, TR]
  | _ :: _, [], [] => by simp [Lib.compareBytes, TR]
  | _ :: _, [], _ :: _ => by simp [Lib.compareBytes, TR]
  | _ :: _, _ :: _, [] => by simp [Lib.compareBytes, TR]
  | a :: a2, b :: b2, c :: c2 => by
    rw [cmpBy_lex, cmpBy_lex, cmpBy_lex]
    exact (cmpI_tr _ _ _).lx (cmpBy_tr a2 b2 c2)
theorem cmpBy_zero : ∀ a b : List UInt8, Lib.compareBytes a b = 0 ↔ a = b
  | [], [] => by simp [Lib.compareBytes]
  | [], _ :: _ => by simp [Lib.compareBytes]
  | _ :: _, [] => by simp [Lib.compareBytes]
  | a :: a2, b :: b2 => by
    rw [cmpBy_lex, lex_zero, cmpI_zero, cmpBy_zero a2 b2]
    constructor
    · rintro ⟨h1, rfl⟩
      rw [show a = b from UInt8.toNat_inj.1 (by omega)]
    · intro h
      injection h with h1 h2
      exact ⟨by rw [h1], h2⟩
theorem cmpB_zero {a b : ByteArray} : cmpB a b = 0 ↔ a = b := by
  unfold cmpB
  rw [cmpBy_zero]
  exact ⟨fun h => Go.WideShapes.bytes_inj h, fun h => by rw [h]⟩

/-- what holds of the comparison with a value -/
structure OrdAt (x : Val) : Prop where
  rng : ∀ y, -1 ≤ cmpV x y ∧ cmpV x y ≤ 1
  anti : ∀ y, cmpV y x = -cmpV x y
  tr : ∀ y z, TR (cmpV x y) (cmpV y z) (cmpV x z)
structure OrdL (l : List Val) : Prop where
  rng : ∀ m, -1 ≤ cmpL l m ∧ cmpL l m ≤ 1
  anti : ∀ m, cmpL m l = -cmpL l m
  tr : ∀ m n, TR (cmpL l m) (cmpL m n) (cmpL l n)
structure OrdD (l : List Fld) : Prop where
  rng : ∀ m, -1 ≤ cmpD l m ∧ cmpD l m ≤ 1
  anti : ∀ m, cmpD m l = -cmpD l m
  tr : ∀ m n, TR (cmpD l m) (cmpD m n) (cmpD l n)
theorem cmpF_lex (f g : Fld) : cmpF f g = lex (cmpB f.s g.s) (cmpV f.v g.v) := by rw [cmpF_eq]; rfl
theorem cmpL_cons (x y : Val) (r s : List Val) : cmpL (x :: r) (y :: s) = lex (cmpV x y) (cmpL r s) := by rw [cmpL]; rfl
theorem cmpD_cons (x y : Fld) (r s : List Fld) : cmpD (x :: r) (y :: s) = lex (cmpF x y) (cmpD r s) := by rw [cmpD]; rfl
theorem ordVL : ∀ l : List Val, (∀ x ∈ l, OrdAt x) → OrdL l := by
  intro l
  induction l with
  | nil =>
    intro _
    refine ⟨fun m => ?_, fun m => ?_, fun m n => ?_⟩
    · cases m <;> simp [cmpL]
    · cases m <;> simp [cmpL]
    · cases m <;> cases n <;> simp [cmpL, TR]
  | cons x r ih =>
    intro h
    have hx := h x (by simp)
    have hr := ih fun y hy => h y (by simp [hy])
    refine ⟨fun m => ?_, fun m => ?_, fun m n => ?_⟩
    · cases m with
      | nil => simp [cmpL]
      | cons y s => rw [cmpL_cons]; exact lex_rng (hx.rng y) (hr.rng s)
    · cases m with
      | nil => simp [cmpL]
      | cons y s => rw [cmpL_cons, cmpL_cons]; exact lex_anti (hx.anti y) (hr.anti s)
    · cases m with
      | nil => cases n <;> simp [cmpL, TR]
      | cons y s =>
        cases n with
        | nil => simp [cmpL, TR]
        | cons z t =>
          rw [cmpL_cons, cmpL_cons, cmpL_cons]
          exact (hx.tr y z).lx (hr.tr s t)
theorem cmpB_rng (a b : ByteArray) : -1 ≤ cmpB a b ∧ cmpB a b ≤ 1 := cmpBy_rng _ _
theorem cmpB_anti (a b : ByteArray) : cmpB b a = -cmpB a b := cmpBy_anti _ _
theorem cmpB_tr (a b c : ByteArray) : TR (cmpB a b) (cmpB b c) (cmpB a c) := cmpBy_tr _ _ _
theorem ordD : ∀ l : List Fld, (∀ f ∈ l, OrdAt f.v) → OrdD l := by
  intro l
  induction l with
  | nil =>
    intro _
    refine ⟨fun m => ?_, fun m => ?_, fun m n => ?_⟩
    · cases m <;> simp [cmpD]
    · cases m <;> simp [cmpD]
    · cases m <;> cases n <;> simp [cmpD, TR]
  | cons x r ih =>
    intro h
    have hx := h x (by simp)
    have hr := ih fun y hy => h y (by simp [hy])
    refine ⟨fun m => ?_, fun m => ?_, fun m n => ?_⟩
    · cases m with
      | nil => simp [cmpD]
      | cons y s => rw [cmpD_cons, cmpF_lex]; exact lex_rng (lex_rng (cmpB_rng _ _) (hx.rng y.v)) (hr.rng s)
    · cases m with
      | nil => simp [cmpD]
      | cons y s => rw [cmpD_cons, cmpD_cons, cmpF_lex, cmpF_lex]; exact lex_anti (lex_anti (cmpB_anti _ _) (hx.anti y.v)) (hr.anti s)
    · cases m with
      | nil => cases n <;> simp [cmpD, TR]
      | cons y s =>
        cases n with
        | nil => simp [cmpD, TR]
        | cons z t =>
          rw [cmpD_cons, cmpD_cons, cmpD_cons, cmpF_lex, cmpF_lex, cmpF_lex]
          exact ((cmpB_tr _ _ _).lx (hx.tr y.v z.v)).lx (hr.tr s t)
/-- the comparison of values of one kind -/
def cmpK (x y : Val) : Int := if x.k = 3 ∨ x.k = 9 ∨ x.k = 10 then cmpI x.n y.n else if x.k = 4 ∨ x.k = 7 ∨ x.k = 8 then cmpB x.t y.t else if x.k = 6 then cmpL x.l y.l else if x.k = 5 then cmpD x.d y.d else 0
theorem cmpV_K {x y : Val} (h : x.k = y.k) : cmpV x y = cmpK x y := by rw [cmpV_eq, if_neg (by simpa using h)]; rfl
theorem ordAt : ∀ x, OrdAt x := by
  intro x
  induction x using Val.ind with
  | h k n t l d ihl ihd =>
  have hL := ordVL l ihl
  have hD := ordD d ihd
  have rK : ∀ y, -1 ≤ cmpK (.mk k n t l d) y ∧ cmpK (.mk k n t l d) y ≤ 1 := by
    intro y
    unfold cmpK
    split
    · exact cmpI_rng _ _
    · split
      · exact cmpB_rng _ _
      · split
        · exact hL.rng y.l
        · split
          · exact hD.rng y.d
          · omega
  have aK : ∀ y, y.k = k → cmpK y (.mk k n t l d) = -cmpK (.mk k n t l d) y := by
    intro y hy
    unfold cmpK
    rw [hy]
    simp only [show (Val.mk k n t l d).k = k from rfl]
    split
    · exact cmpI_anti _ _
    · split
      · exact cmpB_anti _ _
      · split
        · exact hL.anti y.l
        · split
          · exact hD.anti y.d
          · rfl
  have tK : ∀ y z, y.k = k → TR (cmpK (.mk k n t l d) y) (cmpK y z) (cmpK (.mk k n t l d) z) := by
    intro y z hy
    unfold cmpK
    rw [hy]
    simp only [show (Val.mk k n t l d).k = k from rfl]
    split
    · exact cmpI_tr _ _ _
    · split
      · exact cmpB_tr _ _ _
      · split
        · exact hL.tr y.l z.l
        · split
          · exact hD.tr y.d z.d
          · simp [TR]
  refine ⟨fun y => ?_, fun y => ?_, fun y z => ?_⟩
  · by_cases h : (Val.mk k n t l d).k = y.k
    · rw [cmpV_K h]; exact rK y
    · rw [cmpV_kind h]; exact cmpI_rng _ _
  · by_cases h : (Val.mk k n t l d).k = y.k
    · rw [cmpV_K h, cmpV_K h.symm]; exact aK y h.symm
    · rw [cmpV_kind h, cmpV_kind (fun e => h e.symm)]; exact cmpI_anti _ _
  · intro h1 h2
    have hk : (Val.mk k n t l d).k = k := rfl
    have ek : cmpI k y.k ≤ 0 := by
      by_cases h : k = y.k
      · rw [cmpI_zero.2 h]; omega
      · rw [cmpV_kind (by rw [hk]; exact h)] at h1; exact h1
    have ek2 : cmpI y.k z.k ≤ 0 := by
      by_cases h : y.k = z.k
      · rw [cmpI_zero.2 h]; omega
      · rw [cmpV_kind h] at h2; exact h2
    have ek3 := cmpI_tr k y.k z.k ek ek2
    by_cases h : k = y.k
    · by_cases h' : y.k = z.k
      · rw [cmpV_K (y := y) (by rw [hk]; exact h)] at h1 ⊢
        rw [cmpV_K h'] at h2 ⊢
        rw [cmpV_K (y := z) (by rw [hk]; omega)]
        exact tK y z h.symm h1 h2
      · have h3 : k ≠ z.k := by omega
        rw [cmpV_kind h'] at h2 ⊢
        rw [cmpV_kind (y := z) (by rw [hk]; exact h3), hk, ← h]
        have := fun e => h3 (cmpI_zero.1 e)
        rw [← h] at h2
        refine ⟨h2, fun e => absurd e this, fun e => absurd e.2 this⟩
    · have h3 : cmpI k y.k ≠ 0 := fun e => h (cmpI_zero.1 e)
      have h4 : cmpI k z.k ≠ 0 := fun e => h3 (ek3.2.1 e).1
      have e1 : cmpV (.mk k n t l d) y = cmpI k y.k := cmpV_kind (by rw [hk]; exact h)
      have e2 : cmpV (.mk k n t l d) z = cmpI k z.k := cmpV_kind (by rw [hk]; exact fun e => h4 (cmpI_zero.2 e))
      rw [e1, e2]
      exact ⟨ek3.1, fun e => absurd e h4, fun e => absurd e.1 h3⟩
theorem cmpV_anti (x y : Val) : cmpV y x = -cmpV x y := (ordAt x).anti y
theorem cmpV_tr (x y z : Val) : TR (cmpV x y) (cmpV y z) (cmpV x z) := (ordAt x).tr y z
theorem cmpV_self (x : Val) : cmpV x x = 0 := by have := cmpV_anti x x; omega

/-- sound values that compare equal are identical -/
theorem cmpL_eq {l : List Val} : ∀ {m : List Val}, (∀ x ∈ l, ∀ y, cmpV x y = 0 → y ∈ m → x = y) → cmpL l m = 0 → l = m := by
  induction l with
  | nil => intro m _ h; cases m with
    | nil => rfl
    | cons y s => simp [cmpL] at h
  | cons x r ih =>
    intro m hx h
    cases m with
    | nil => simp [cmpL] at h
    | cons y s =>
      rw [cmpL_cons, lex_zero] at h
      rw [hx x (by simp) y h.1 (by simp), ih (fun a ha b hb hm => hx a (by simp [ha]) b hb (by simp [hm])) h.2]
theorem cmpD_eq {l : List Fld} : ∀ {m : List Fld}, (∀ x ∈ l, ∀ y, cmpV x.v y.v = 0 → y ∈ m → x.v = y.v) → cmpD l m = 0 → l = m := by
  induction l with
  | nil => intro m _ h; cases m with
    | nil => rfl
    | cons y s => simp [cmpD] at h
  | cons x r ih =>
    intro m hx h
    cases m with
    | nil => simp [cmpD] at h
    | cons y s =>
      rw [cmpD_cons, lex_zero, cmpF_lex, lex_zero] at h
      have e1 : x.s = y.s := cmpB_zero.1 h.1.1
      have e2 : x.v = y.v := hx x (by simp) y h.1.2 (by simp)
      have e : x = y := by cases x; cases y; simp only [Fld.s, Fld.v] at e1 e2; rw [e1, e2]
      rw [e, ih (fun a ha b hb hm => hx a (by simp [ha]) b hb (by simp [hm])) h.2]
theorem cmpV_same {nm : ByteArray → Bool} : ∀ x y : Val, SoundV nm x → SoundV nm y → cmpV x y = 0 → x = y := by
  intro x
  induction x using Val.ind with
  | h k n t l d ihl ihd =>
  intro y hx hy h
  obtain ⟨hx0, hx1, hx2, _⟩ := (SoundV_iff nm _).1 hx
  obtain ⟨hy0, hy1, hy2, _⟩ := (SoundV_iff nm _).1 hy
  have hk : k = y.k := by
    by_cases e : (Val.mk k n t l d).k = y.k
    · exact e
    · rw [cmpV_kind e] at h; exact absurd (cmpI_zero.1 h) e
  cases y with
  | mk k' n' t' l' d' =>
  simp only [Val.k, Val.n, Val.t, Val.l, Val.d] at *
  subst hk
  have h' : (if k = 3 ∨ k = 9 ∨ k = 10 then cmpI n n' else if k = 4 ∨ k = 7 ∨ k = 8 then cmpB t t' else if k = 6 then cmpL l l' else if k = 5 then cmpD d d' else 0) = 0 := (cmpV_K (x := .mk k n t l d) (y := .mk k n' t' l' d') rfl).symm.trans h
  have nil : ∀ {α : Type} {a b : List α}, a.length = 0 → b.length = 0 → a = b := fun ha hb => by rw [List.eq_nil_of_length_eq_zero ha, List.eq_nil_of_length_eq_zero hb]
  have emp : ∀ {a b : ByteArray}, a.size = 0 → b.size = 0 → a = b := fun {a b} ha hb => Go.WideShapes.bytes_inj (by
    rw [List.eq_nil_of_length_eq_zero (l := a.data.toList) (by simpa using ha), List.eq_nil_of_length_eq_zero (l := b.data.toList) (by simpa using hb)])
  obtain ⟨a1, a2, a3, a4, _⟩ := hx0
  obtain ⟨b1, b2, b3, b4, _⟩ := hy0
  split at h'
  · rename_i hi
    rw [cmpI_zero.1 h', emp (a := t) (b := t') (by omega) (by omega), nil (a := l) (b := l') (by omega) (by omega), nil (a := d) (b := d') (by omega) (by omega)]
  · split at h'
    · rename_i hi ht
      rw [show n = n' by omega, cmpB_zero.1 h', nil (a := l) (b := l') (by omega) (by omega), nil (a := d) (b := d') (by omega) (by omega)]
    · split at h'
      · rename_i hi ht h6
        rw [show n = n' by omega, emp (a := t) (b := t') (by omega) (by omega), nil (a := d) (b := d') (by omega) (by omega),
          cmpL_eq (fun a ha b hb hm => ihl a ha b (hx1 a ha) (hy1 b hm) hb) h']
      · split at h'
        · rename_i hi ht h6 h5
          rw [show n = n' by omega, emp (a := t) (b := t') (by omega) (by omega), nil (a := l) (b := l') (by omega) (by omega),
            cmpD_eq (fun a ha b hb hm => ihd a ha b.v (hx2 a ha) (hy2 b hm) hb) h']
        · rw [show n = n' by omega, emp (a := t) (b := t') (by omega) (by omega), nil (a := l) (b := l') (by omega) (by omega), nil (a := d) (b := d') (by omega) (by omega)]

end Go.Proofs.YtfkapannahcjiaaGreatDoor


/- Lists of half-open spans over a linear order, in plain words: normal forms and their uniqueness, merging, meeting, the rest. -/
namespace Go.Proofs.YtfkapannahcjiaaGreatDoor

/-- a comparison that is a total order, on the valid ones up to identity -/
structure Lin {α : Type} (cm : α → α → Int) (V : α → Prop) : Prop where
  anti : ∀ x y, cm y x = -cm x y
  tr : ∀ x y z, TR (cm x y) (cm y z) (cm x z)
  eq : ∀ x y, V x → V y → cm x y = 0 → x = y

section
variable {α : Type} {cm : α → α → Int} {V : α → Prop}
theorem Lin.self (H : Lin cm V) (x : α) : cm x x = 0 := by have := H.anti x x; omega

/-- a place lies in one of the spans -/
def inS (cm : α → α → Int) (a : α) (l : List (α × α)) : Prop := ∃ s ∈ l, cm s.1 a ≤ 0 ∧ cm a s.2 < 0
theorem inS_nil (a : α) : ¬ inS cm a [] := by rintro ⟨s, hs, _⟩; simp at hs
theorem inS_cons {a : α} {s : α × α} {l : List (α × α)} : inS cm a (s :: l) ↔ (cm s.1 a ≤ 0 ∧ cm a s.2 < 0) ∨ inS cm a l := by
  constructor
  · rintro ⟨t, ht, h⟩
    rcases List.mem_cons.1 ht with rfl | ht
    · exact .inl h
    · exact .inr ⟨t, ht, h⟩
  · rintro (h | ⟨t, ht, h⟩)
    · exact ⟨s, by simp, h⟩
    · exact ⟨t, by simp [ht], h⟩
theorem inS_app {a : α} {l m : List (α × α)} : inS cm a (l ++ m) ↔ inS cm a l ∨ inS cm a m := by
  induction l with
  | nil => simp only [List.nil_append]; exact ⟨.inr, fun h => h.resolve_left (inS_nil a)⟩
  | cons s r ih => rw [List.cons_append, inS_cons, inS_cons, ih, or_assoc]
theorem inS_one {a : α} {s : α × α} : inS cm a [s] ↔ (cm s.1 a ≤ 0 ∧ cm a s.2 < 0) := by rw [inS_cons]; exact ⟨fun h => h.resolve_right (inS_nil a), .inl⟩
theorem inS_perm {a : α} {l m : List (α × α)} (h : l.Perm m) : inS cm a l ↔ inS cm a m := by
  constructor
  · rintro ⟨s, hs, k⟩; exact ⟨s, h.subset hs, k⟩
  · rintro ⟨s, hs, k⟩; exact ⟨s, h.symm.subset hs, k⟩

/-- spans in normal form: none is empty, they ascend and do not touch -/
structure NF (cm : α → α → Int) (V : α → Prop) (l : List (α × α)) : Prop where
  ne : ∀ s ∈ l, cm s.1 s.2 < 0 ∧ V s.1 ∧ V s.2
  ord : l.Pairwise fun s t => cm s.2 t.1 < 0
theorem NF.nil : NF cm V [] := ⟨fun s hs => by simp at hs, .nil⟩
theorem NF.tail {s : α × α} {l : List (α × α)} (h : NF cm V (s :: l)) : NF cm V l := ⟨fun t ht => h.ne t (by simp [ht]), List.Pairwise.of_cons h.ord⟩
theorem NF.head {s : α × α} {l : List (α × α)} (h : NF cm V (s :: l)) {t : α × α} (ht : t ∈ l) : cm s.2 t.1 < 0 := List.rel_of_pairwise_cons h.ord ht

/-- a normal form is determined by what lies in it -/
theorem nf_unique (H : Lin cm V) : ∀ {l m : List (α × α)}, NF cm V l → NF cm V m → (∀ a, V a → (inS cm a l ↔ inS cm a m)) → l = m := by
  intro l
  induction l with
  | nil =>
    intro m _ hm h
    cases m with
    | nil => rfl
    | cons t q =>
      have ht := hm.ne t (by simp)
      exact absurd ((h t.1 ht.2.1).2 (inS_cons.2 (.inl ⟨by rw [H.self]; omega, ht.1⟩))) (inS_nil _)
  | cons s r ih =>
    intro m hl hm h
    cases m with
    | nil =>
      have hs := hl.ne s (by simp)
      exact absurd ((h s.1 hs.2.1).1 (inS_cons.2 (.inl ⟨by rw [H.self]; omega, hs.1⟩))) (inS_nil _)
    | cons t q =>
      have hs := hl.ne s (by simp)
      have ht := hm.ne t (by simp)
      have low : ∀ {s t : α × α} {r q : List (α × α)}, NF cm V (s :: r) → NF cm V (t :: q) → (inS cm s.1 (s :: r) → inS cm s.1 (t :: q)) → cm t.1 s.1 ≤ 0 := by
        intro s t r q hl hm h
        have hs := hl.ne s (by simp)
        rcases inS_cons.1 (h (inS_cons.2 (.inl ⟨by rw [H.self]; omega, hs.1⟩))) with k | ⟨u, hu, k⟩
        · exact k.1
        · have h1 := hm.head hu
          have h2 := (hm.ne t (by simp)).1
          have h3 := H.tr t.1 t.2 u.1 (by omega) (by omega)
          have h4 := H.tr t.1 u.1 s.1 (by omega) (by omega)
          omega
      have e1 : s.1 = t.1 := by
        have a1 := low hl hm (h s.1 hs.2.1).1
        have a2 := low hm hl (h t.1 ht.2.1).2
        have := H.anti s.1 t.1
        exact H.eq _ _ hs.2.1 ht.2.1 (by omega)
      have up : ∀ {s t : α × α} {r q : List (α × α)}, s.1 = t.1 → NF cm V (s :: r) → (inS cm s.2 (t :: q) → inS cm s.2 (s :: r)) → ¬ cm s.2 t.2 < 0 := by
        intro s t r q e hl h hlt
        have hs := hl.ne s (by simp)
        have := h (inS_cons.2 (.inl ⟨by rw [← e]; omega, hlt⟩))
        rcases inS_cons.1 this with k | ⟨u, hu, k⟩
        · have := H.self s.2; omega
        · have h1 := hl.head hu
          have := H.anti s.2 u.1
          omega
      have e2 : s.2 = t.2 := by
        have a1 := up e1 hl (h s.2 hs.2.2).2
        have a2 := up e1.symm hm (h t.2 ht.2.2).1
        have := H.anti s.2 t.2
        exact H.eq _ _ hs.2.2 ht.2.2 (by omega)
      obtain rfl : s = t := Prod.ext e1 e2
      congr 1
      refine ih hl.tail hm.tail fun a ha => ?_
      have half : ∀ {r q : List (α × α)}, NF cm V (s :: r) → (inS cm a (s :: r) → inS cm a (s :: q)) → inS cm a r → inS cm a q := by
        intro r q hl h hr
        rcases inS_cons.1 (h (inS_cons.2 (.inr hr))) with k | k
        · obtain ⟨u, hu, k2⟩ := hr
          have h1 := hl.head hu
          have h2 := H.tr s.2 u.1 a (by omega) k2.1
          have := H.anti a s.2
          omega
        · exact k
      exact ⟨half hl (h a ha).1, half hm (h a ha).2⟩

/-- one step of merging -/
def stepS (cm : α → α → Int) (c : List (α × α)) (s : α × α) : List (α × α) :=
  match c.getLast? with
  | none => c ++ [s]
  | some l => if cm l.2 s.1 < 0 then c ++ [s] else if cm l.2 s.2 < 0 then c.dropLast ++ [(l.1, s.2)] else c
def mergeS (cm : α → α → Int) (l : List (α × α)) : List (α × α) := l.foldl (stepS cm) []
theorem mergeS_snoc (l : List (α × α)) (s : α × α) : mergeS cm (l ++ [s]) = stepS cm (mergeS cm l) s := by unfold mergeS; rw [List.foldl_append]; rfl

/-- what merging keeps -/
structure MI (cm : α → α → Int) (V : α → Prop) (P c : List (α × α)) : Prop where
  nf : NF cm V c
  mem : ∀ a, inS cm a c ↔ inS cm a P
  len : c.length ≤ P.length
  low : ∀ l ∈ c, ∃ p ∈ P, l.1 = p.1
theorem pw_snoc {β : Type} {R : β → β → Prop} {l : List β} {a : β} : (l ++ [a]).Pairwise R ↔ l.Pairwise R ∧ ∀ x ∈ l, R x a := by
  rw [List.pairwise_append]
  constructor
  · rintro ⟨h1, _, h3⟩; exact ⟨h1, fun x hx => h3 x hx a (by simp)⟩
  · rintro ⟨h1, h2⟩; exact ⟨h1, by simp, fun x hx y hy => by simp at hy; subst hy; exact h2 x hx⟩
theorem MI.step (H : Lin cm V) {P c : List (α × α)} {s : α × α} (h : MI cm V P c) (hs : cm s.1 s.2 < 0 ∧ V s.1 ∧ V s.2) (hlo : ∀ p ∈ P, cm p.1 s.1 ≤ 0) : MI cm V (P ++ [s]) (stepS cm c s) := by
  rcases List.eq_nil_or_concat c with rfl | ⟨d, l, rfl⟩
  · have e : stepS cm [] s = [s] := rfl
    rw [e]
    refine ⟨⟨fun t ht => by simp at ht; subst ht; exact hs, by simp⟩, fun a => ?_, by simp, fun t ht => ⟨s, by simp, by simp at ht; rw [ht]⟩⟩
    rw [inS_app]
    exact ⟨.inr, fun k => k.resolve_left fun hp => inS_nil a ((h.mem a).2 hp)⟩
  · rw [List.concat_eq_append] at h ⊢
    have hlen := h.len
    simp only [List.length_append, List.length_cons, List.length_nil] at hlen
    have hl := h.nf.ne l (by simp)
    obtain ⟨hd, hdl⟩ := pw_snoc.1 h.nf.ord
    have hls : cm l.1 s.1 ≤ 0 := by
      obtain ⟨p, hp, e⟩ := h.low l (by simp)
      rw [e]; exact hlo p hp
    have e0 : (d ++ [l]).getLast? = some l := by simp
    unfold stepS
    rw [e0]
    simp only
    by_cases h1 : cm l.2 s.1 < 0
    · rw [if_pos h1]
      refine ⟨⟨fun t ht => ?_, pw_snoc.2 ⟨h.nf.ord, fun t ht => ?_⟩⟩, fun a => ?_, by simp; omega, fun t ht => ?_⟩
      · rcases List.mem_append.1 ht with ht | ht
        · exact h.nf.ne t ht
        · simp at ht; subst ht; exact hs
      · rcases List.mem_append.1 ht with ht | ht
        · have a1 := hdl t ht
          have a2 := H.tr t.2 l.1 l.2 (by omega) (by omega)
          have a3 := H.tr t.2 l.2 s.1 (by omega) (by omega)
          omega
        · simp at ht; subst ht; exact h1
      · rw [inS_app (l := d ++ [l]), inS_app (l := P), h.mem]
      · rcases List.mem_append.1 ht with ht | ht
        · obtain ⟨p, hp, e⟩ := h.low t ht; exact ⟨p, by simp [hp], e⟩
        · simp at ht; subst ht; exact ⟨t, by simp, rfl⟩
    · rw [if_neg h1]
      by_cases h2 : cm l.2 s.2 < 0
      · rw [if_pos h2, List.dropLast_concat]
        refine ⟨⟨fun t ht => ?_, pw_snoc.2 ⟨hd, hdl⟩⟩, fun a => ?_, by simp; omega, fun t ht => ?_⟩
        · rcases List.mem_append.1 ht with ht | ht
          · exact h.nf.ne t (by simp [ht])
          · simp at ht; subst ht
            have := H.tr l.1 l.2 s.2 (by omega) (by omega)
            exact ⟨by show cm l.1 s.2 < 0; omega, hl.2.1, hs.2.2⟩
        · rw [inS_app (l := d), inS_app (l := P), ← h.mem, inS_app (l := d), or_assoc]
          apply or_congr Iff.rfl
          rw [inS_one, inS_one, inS_one]
          simp only
          constructor
          · rintro ⟨k1, k2⟩
            by_cases k3 : cm a l.2 < 0
            · exact .inl ⟨k1, k3⟩
            · have := H.anti a l.2
              have := H.anti l.2 s.1
              have := H.tr s.1 l.2 a (by omega) (by omega)
              exact .inr ⟨by omega, k2⟩
          · rintro (⟨k1, k2⟩ | ⟨k1, k2⟩)
            · have := H.tr a l.2 s.2 (by omega) (by omega)
              exact ⟨k1, by omega⟩
            · have := H.tr l.1 s.1 a hls k1
              exact ⟨by omega, k2⟩
        · rcases List.mem_append.1 ht with ht | ht
          · obtain ⟨p, hp, e⟩ := h.low t (by simp [ht]); exact ⟨p, by simp [hp], e⟩
          · simp at ht; subst ht
            obtain ⟨p, hp, e⟩ := h.low l (by simp)
            exact ⟨p, by simp [hp], e⟩
      · rw [if_neg h2]
        refine ⟨h.nf, fun a => ?_, by simp; omega, fun t ht => ?_⟩
        · rw [inS_app (l := P), ← h.mem]
          refine ⟨.inl, fun k => k.elim id fun k => ?_⟩
          rw [inS_one] at k
          rw [inS_app, inS_one]
          have := H.tr l.1 s.1 a hls k.1
          have := H.anti s.2 l.2
          have := H.tr a s.2 l.2 (by omega) (by omega)
          exact .inr ⟨by omega, by omega⟩
        · obtain ⟨p, hp, e⟩ := h.low t ht; exact ⟨p, by simp [hp], e⟩
/-- merging a list that is sorted by its beginnings -/
theorem mergeS_ok (H : Lin cm V) {l : List (α × α)} (hne : ∀ s ∈ l, cm s.1 s.2 < 0 ∧ V s.1 ∧ V s.2) (hs : l.Pairwise fun s t => cm s.1 t.1 ≤ 0) : MI cm V l (mergeS cm l) := by
  have key : ∀ i, i ≤ l.length → MI cm V (l.take i) (mergeS cm (l.take i)) := by
    intro i
    induction i with
    | zero => intro _; exact ⟨NF.nil, fun a => Iff.rfl, by simp [mergeS], fun t ht => by simp [mergeS] at ht⟩
    | succ i ih =>
      intro hi
      have hx : l[i]? = some l[i] := List.getElem?_eq_getElem (by omega)
      rw [take_snoc' hx, mergeS_snoc]
      refine (ih (by omega)).step H (hne _ (List.getElem_mem _)) fun p hp => ?_
      have h2 : (l.take i ++ [l[i]]).Pairwise fun s t => cm s.1 t.1 ≤ 0 := by
        rw [← take_snoc' hx]
        exact hs.sublist (List.take_sublist _ _)
      exact (pw_snoc.1 h2).2 p hp
  have := key l.length (Nat.le_refl _)
  rwa [List.take_length] at this
theorem stepS_len (c : List (α × α)) (s : α × α) : (stepS cm c s).length ≤ c.length + 1 := by
  unfold stepS
  split
  · simp
  · split
    · simp
    · split
      · simp
      · omega
theorem mergeS_len (l : List (α × α)) : (mergeS cm l).length ≤ l.length := by
  have : ∀ c : List (α × α), (l.foldl (stepS cm) c).length ≤ c.length + l.length := by
    induction l with
    | nil => intro c; simp
    | cons s r ih =>
      intro c
      have h1 := ih (stepS cm c s)
      have h2 := stepS_len (cm := cm) c s
      simp only [List.foldl_cons, List.length_cons]
      omega
  simpa [mergeS] using this []

end

end Go.Proofs.YtfkapannahcjiaaGreatDoor


/- The ends of a set of places: where it begins, where it stops. Plain law. -/
namespace Go.Proofs.YtfkapannahcjiaaGreatDoor

section
variable {α : Type} {cm : α → α → Int} {V : α → Prop}
/-- a set begins at a place -/
def LoE (cm : α → α → Int) (V : α → Prop) (S : α → Prop) (a : α) : Prop := S a ∧ ∀ c, V c → cm c a < 0 → ∃ d, V d ∧ cm c d ≤ 0 ∧ cm d a < 0 ∧ ¬ S d
/-- a set stops at a place -/
def HiE (cm : α → α → Int) (V : α → Prop) (S : α → Prop) (a : α) : Prop := ¬ S a ∧ (∃ c, V c ∧ cm c a < 0) ∧ ∀ c, V c → cm c a < 0 → ∃ d, V d ∧ cm c d ≤ 0 ∧ cm d a < 0 ∧ S d
theorem LoE.congr {S T : α → Prop} {a : α} (h : LoE cm V S a) (ha : V a) (e : ∀ a, V a → (S a ↔ T a)) : LoE cm V T a :=
  ⟨(e a ha).1 h.1, fun c hc hl => by
    obtain ⟨d, h1, h2, h3, h4⟩ := h.2 c hc hl
    exact ⟨d, h1, h2, h3, fun k => h4 ((e d h1).2 k)⟩⟩
theorem HiE.congr {S T : α → Prop} {a : α} (h : HiE cm V S a) (ha : V a) (e : ∀ a, V a → (S a ↔ T a)) : HiE cm V T a :=
  ⟨fun k => h.1 ((e a ha).2 k), h.2.1, fun c hc hl => by
    obtain ⟨d, h1, h2, h3, h4⟩ := h.2.2 c hc hl
    exact ⟨d, h1, h2, h3, (e d h1).1 h4⟩⟩
theorem LoE.or {S T : α → Prop} {a : α} (h : LoE cm V (fun a => S a ∨ T a) a) : LoE cm V S a ∨ LoE cm V T a := by
  rcases h.1 with k | k
  · exact .inl ⟨k, fun c hc hl => by
      obtain ⟨d, h1, h2, h3, h4⟩ := h.2 c hc hl
      exact ⟨d, h1, h2, h3, fun k => h4 (.inl k)⟩⟩
  · exact .inr ⟨k, fun c hc hl => by
      obtain ⟨d, h1, h2, h3, h4⟩ := h.2 c hc hl
      exact ⟨d, h1, h2, h3, fun k => h4 (.inr k)⟩⟩
theorem Lin.le (H : Lin cm V) {x y z : α} (h1 : cm x y ≤ 0) (h2 : cm y z ≤ 0) : cm x z ≤ 0 := by have := H.tr x y z; unfold TR at this; omega
theorem Lin.lt_le (H : Lin cm V) {x y z : α} (h1 : cm x y < 0) (h2 : cm y z ≤ 0) : cm x z < 0 := by have := H.tr x y z; unfold TR at this; omega
theorem Lin.le_lt (H : Lin cm V) {x y z : α} (h1 : cm x y ≤ 0) (h2 : cm y z < 0) : cm x z < 0 := by have := H.tr x y z; unfold TR at this; omega
theorem HiE.or (H : Lin cm V) {S T : α → Prop} {a : α} (h : HiE cm V (fun a => S a ∨ T a) a) : HiE cm V S a ∨ HiE cm V T a := by
  obtain ⟨h0, hc0, h1⟩ := h
  by_cases k : HiE cm V S a
  · exact .inl k
  · refine .inr ⟨fun x => h0 (.inr x), hc0, fun c hc hl => ?_⟩
    have k' : ∃ c1, V c1 ∧ cm c1 a < 0 ∧ ∀ d, V d → cm c1 d ≤ 0 → cm d a < 0 → ¬ S d := Classical.byContradiction fun n => k ⟨fun x => h0 (.inl x), hc0, fun c hc hl => Classical.byContradiction fun m => n ⟨c, hc, hl, fun d d1 d2 d3 d4 => m ⟨d, d1, d2, d3, d4⟩⟩⟩
    obtain ⟨c1, v1, l1, n1⟩ := k'
    by_cases hcc : cm c c1 ≤ 0
    · obtain ⟨d, d1, d2, d3, d4⟩ := h1 c1 v1 l1
      exact ⟨d, d1, H.le hcc d2, d3, d4.resolve_left (n1 d d1 d2 d3)⟩
    · have ha := H.anti c c1
      obtain ⟨d, d1, d2, d3, d4⟩ := h1 c hc hl
      exact ⟨d, d1, d2, d3, d4.resolve_left (n1 d d1 (H.le (by omega) d2) d3)⟩
theorem LoE.span (H : Lin cm V) {s : α × α} {a : α} (h1 : V s.1) (ha : V a) (h : LoE cm V (fun a => cm s.1 a ≤ 0 ∧ cm a s.2 < 0) a) : a = s.1 := by
  obtain ⟨⟨k1, k2⟩, k3⟩ := h
  by_cases hl : cm s.1 a < 0
  · obtain ⟨d, d1, d2, d3, d4⟩ := k3 s.1 h1 hl
    exact absurd ⟨d2, H.lt_le d3 (by omega)⟩ d4
  · have := H.anti s.1 a
    exact H.eq a s.1 ha h1 (by omega)
theorem HiE.span (H : Lin cm V) {s : α × α} {a : α} (h2 : V s.2) (ha : V a) (h : HiE cm V (fun a => cm s.1 a ≤ 0 ∧ cm a s.2 < 0) a) : a = s.2 := by
  obtain ⟨k1, ⟨c, c1, c2⟩, k3⟩ := h
  obtain ⟨d, d1, d2, d3, d4, d5⟩ := k3 c c1 c2
  have hsa : cm s.1 a ≤ 0 := by have := H.le_lt d4 d3; omega
  have hna : ¬ cm a s.2 < 0 := fun k => k1 ⟨hsa, k⟩
  have an := H.anti a s.2
  by_cases hl : cm s.2 a < 0
  · obtain ⟨e, e1, e2, e3, e4, e5⟩ := k3 s.2 h2 hl
    have := H.anti s.2 e
    omega
  · exact H.eq a s.2 ha h2 (by omega)
theorem LoE.mem (H : Lin cm V) : ∀ {l : List (α × α)} {a : α}, (∀ s ∈ l, V s.1 ∧ V s.2) → V a → LoE cm V (fun a => inS cm a l) a → ∃ s ∈ l, a = s.1
  | [], a, _, _, h => absurd h.1 (inS_nil a)
  | s :: r, a, hv, ha, h => by
    rcases (h.congr ha fun a _ => inS_cons).or with h | h
    · exact ⟨s, by simp, h.span H (hv s (by simp)).1 ha⟩
    · obtain ⟨t, ht, e⟩ := LoE.mem H (fun t ht => hv t (by simp [ht])) ha h
      exact ⟨t, by simp [ht], e⟩
theorem HiE.mem (H : Lin cm V) : ∀ {l : List (α × α)} {a : α}, (∀ s ∈ l, V s.1 ∧ V s.2) → V a → HiE cm V (fun a => inS cm a l) a → ∃ s ∈ l, a = s.2
  | [], a, _, _, h => by
    obtain ⟨_, ⟨c, c1, c2⟩, h3⟩ := h
    obtain ⟨d, _, _, _, d4⟩ := h3 c c1 c2
    exact absurd d4 (inS_nil d)
  | s :: r, a, hv, ha, h => by
    rcases (h.congr ha fun a _ => inS_cons).or H with h | h
    · exact ⟨s, by simp, h.span H (hv s (by simp)).2 ha⟩
    · obtain ⟨t, ht, e⟩ := HiE.mem H (fun t ht => hv t (by simp [ht])) ha h
      exact ⟨t, by simp [ht], e⟩
theorem NF.three {l : List (α × α)} (h : NF cm V l) {s t : α × α} (hs : s ∈ l) (ht : t ∈ l) : s = t ∨ cm s.2 t.1 < 0 ∨ cm t.2 s.1 < 0 := by
  obtain ⟨i, hi, rfl⟩ := List.mem_iff_getElem.1 hs
  obtain ⟨j, hj, rfl⟩ := List.mem_iff_getElem.1 ht
  rcases Nat.lt_trichotomy i j with k | k | k
  · exact .inr (.inl (List.pairwise_iff_getElem.1 h.ord i j hi hj k))
  · subst k; exact .inl rfl
  · exact .inr (.inr (List.pairwise_iff_getElem.1 h.ord j i hj hi k))
theorem NF.stop (H : Lin cm V) {l : List (α × α)} (h : NF cm V l) {s : α × α} (hs : s ∈ l) : ¬ inS cm s.2 l := by
  rintro ⟨u, hu, k1, k2⟩
  have ne := (h.ne u hu).1
  have ns := (h.ne s hs).1
  rcases h.three hs hu with e | e | e
  · subst e
    have := H.self s.2
    omega
  · have := H.lt_le e k1
    have := H.self s.2
    omega
  · have a1 := H.lt_le k2 (show cm u.2 s.1 ≤ 0 by omega)
    have a2 := H.lt_le a1 (show cm s.1 s.2 ≤ 0 by omega)
    have := H.self s.2
    omega
theorem NF.lo (H : Lin cm V) {l : List (α × α)} (h : NF cm V l) {s : α × α} (hs : s ∈ l) : LoE cm V (fun a => inS cm a l) s.1 := by
  have ns := h.ne s hs
  refine ⟨⟨s, hs, by rw [H.self]; omega, ns.1⟩, fun c hc hl => ?_⟩
  by_cases k : inS cm c l
  · obtain ⟨t, ht, k1, k2⟩ := k
    have nt := h.ne t ht
    rcases h.three hs ht with e | e | e
    · subst e
      have := H.anti s.1 c
      omega
    · have a1 := H.lt_le hl (show cm s.1 s.2 ≤ 0 by omega)
      have a2 := H.lt_le a1 (show cm s.2 t.1 ≤ 0 by omega)
      have := H.anti t.1 c
      omega
    · exact ⟨t.2, nt.2.2, by omega, e, h.stop H ht⟩
  · exact ⟨c, hc, by rw [H.self]; omega, hl, k⟩
theorem NF.hi (H : Lin cm V) {l : List (α × α)} (h : NF cm V l) {s : α × α} (hs : s ∈ l) : HiE cm V (fun a => inS cm a l) s.2 := by
  have ns := h.ne s hs
  refine ⟨h.stop H hs, ⟨s.1, ns.2.1, ns.1⟩, fun c hc hl => ?_⟩
  by_cases k : cm s.1 c ≤ 0
  · exact ⟨c, hc, by rw [H.self]; omega, hl, s, hs, k, hl⟩
  · have := H.anti s.1 c
    exact ⟨s.1, ns.2.1, by omega, ns.1, s, hs, by rw [H.self]; omega, ns.1⟩
end
end Go.Proofs.YtfkapannahcjiaaGreatDoor

