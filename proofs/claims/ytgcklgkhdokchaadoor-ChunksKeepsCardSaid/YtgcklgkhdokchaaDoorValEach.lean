/- Contracts of value.each, value.nodes and value.depth. -/
import Derived.Test.YtgcklgkhdokchaaDoorValPure
import Derived.Test.YtgcklgkhdokchaaDoorKit4
import Derived.IntWalk
import Derived.Shelf.Abstract
namespace Go.Proofs.YtgcklgkhdokchaaDoor
open Go.RowKit

/-- what a call of the function that each was handed does -/
def EachStep (g : Nat) (Inv : Nat → World → Prop) (Fin : World → Prop) (i : Nat) (wr : World) (e : Ending) (w' : World) : Prop :=
  ∃ b, e = .returned (.bool b) ∧ But g wr w' ∧ (b = true → Inv (i + 1) w') ∧ (b = false → Fin w')
def EachEnd (g : Nat) (Fin : World → Prop) (w : World) (e : Ending) (w' : World) : Prop := e = .returned (.tuple #[]) ∧ But g w w' ∧ Fin w'

theorem RV.but {F : Nat → Prop} {g : Nat} {w w' : World} {c : VC} {x : Val} (h : RV (fun b => b ≠ g ∧ F b) w c x) (hb : But g w w') : RV (fun b => b ≠ g ∧ F b) w' c x :=
  h.keepG fun b hF hl => ⟨hF, hb.block b hl hF.1⟩

set_option maxRecDepth 100000 in
set_option maxHeartbeats 1000000 in
theorem each_any (f : FuncId) (g m : Nat) (x : Val) (c : VC) (w : World) (h : RV (fun b => b ≠ g) w c x) (Inv : Nat → World → Prop) (Fin : World → Prop)
    (hent : ∀ args w, (callFunc f args).run Tryd.prog w = .ok (.enter f args) w) (h0 : Inv 0 w) (hst : ∀ i w1 w2, Inv i w1 → Below w1.heap.size w1 w2 → Inv i w2)
    (hs : ∀ (i : Nat) (y : Val) (u : VC) (wr : World), x.parts[i]? = some y → Inv i wr → But g w wr → RW wr u y → Calls Tryd.prog f #[u.val, .pointer (some ⟨g, 0, none⟩), .pointer (some ⟨m, 0, none⟩)] wr (EachStep g Inv Fin i wr))
    (he : ∀ wr, Inv x.parts.length wr → Fin wr) :
    Calls Tryd.prog 94 #[c.val, .func (.func f) #[] #[.pointer (some ⟨g, 0, none⟩), .pointer (some ⟨m, 0, none⟩)]] w (EachEnd g Fin w) := by
  obtain ⟨ck, cn, ct, LA, ln, lc, DA, dn, dc⟩ := c
  have ho := h.open
  have hln : ln ≤ 140737488355328 := by have := ho.lsz; unfold reach at this; simp only at this; omega
  have hdn : dn ≤ 140737488355328 := by have := ho.dsz; unfold reach at this; simp only at this; omega
  have HO := Lib.hid ho
  have HS := Lib.hid hs
  have HE := Lib.hid he
  have H0 := Lib.hid (hst 0 w _ h0 ((Below.refl _ _).alloc (Nat.le_refl _) (Obj.cells #[.int .i64 ck, .int .i64 cn, .string ct, .slice LA ln lc, .slice DA dn dc] 78)))
  have HT := Lib.hid hst
  clear ho h hs he h0 hst
  cases h6 : (ck == 6)
  · cases h5 : (ck == 5)
    · have HP : Hid (x.parts.length = 0) := by
        have := HO.out.k
        simp only at this
        simp at h6 h5
        simp [Hid, Val.parts, ← this, h6, h5]
      go_enter Tryd.func94, Tryd.ntmps94
      go_wp2_with fail
      go_end0
      exact ⟨rfl, But.of_below ((Below.refl _ _).alloc (Nat.le_refl _) _), HE.out _ (by rw [HP.out]; exact H0.out)⟩
    · have HP : Hid (x.parts = x.d.map Fld.v) := by
        have := HO.out.k
        simp only at this
        simp at h5
        simp [Hid, Val.parts, ← this, h5]
      go_enter Tryd.func94, Tryd.ntmps94
      go_wp2_with fail
      go_loopw [29] (fun v29 wr => ∃ i : Nat, i ≤ dn ∧ v29 = .int .i64 i ∧ Inv i wr ∧ But g w wr) (fun v29 _ => dn - (intOf v29).toNat)
      case atStart => exact ⟨0, Nat.zero_le _, rfl, H0.out, But.of_below ((Below.refl _ _).alloc (Nat.le_refl _) _)⟩
      case round =>
        obtain ⟨i, hi, rfl, I1, I2⟩ := hrel
        have J1 := Lib.hid I1
        have J2 := Lib.hid I2
        by_cases hlt : i < dn
        · obtain ⟨b, off, hDA, hbg, hel⟩ := HO.out.da (by show 0 < dn; omega)
          obtain ⟨y, hy⟩ : ∃ y, x.d[i]? = some y := ⟨_, List.getElem?_eq_getElem (by have := HO.out.dn; simp only at this; omega)⟩
          obtain ⟨s0, hsz, u, hu, hr⟩ := hel i y hy
          simp only at hDA
          subst hDA
          obtain ⟨u0, u1, u2, u3, u4⟩ := hu.keep (I2.block b hu.lt hbg.1)
          have t0 := (I2.cell (p := ⟨b, off + i * 6, none⟩) hu.lt hbg.1).trans s0
          have hb : b < wr.heap.size := by have := hu.lt; have := I2.size; omega
          have HR := Lib.hid ((hr.keepG (G := fun _ => True) fun q hq hl => ⟨trivial, I2.block q hl hq⟩).alloc (Obj.cells #[.string y.s, .int .i64 u.k, .int .i64 u.n, .string u.t, .slice u.LA u.ln u.lc, .slice u.DA u.dn u.dc] 81))
          have HI := Lib.hid (HT.out i wr _ I1 ((Below.refl _ _).alloc (Nat.le_refl _) (Obj.cells #[.string y.s, .int .i64 u.k, .int .i64 u.n, .string u.t, .slice u.LA u.ln u.lc, .slice u.DA u.dn u.dc] 81)))
          have HB := Lib.hid (I2.step ((Below.refl _ _).alloc (Nat.le_refl _) (Obj.cells #[.string y.s, .int .i64 u.k, .int .i64 u.n, .string u.t, .slice u.LA u.ln u.lc, .slice u.DA u.dn u.dc] 81)))
          have HY : Hid (x.parts[i]? = some y.v) := by rw [Hid, HP.out, List.getElem?_map, hy]; rfl
          clear hel hr hu hy I1 I2 s0 hsz
          go_wp2_with fail
          refine (HS.out i y.v u _ HY.out HI.out HB.out HR.out).mono ?_
          rintro e w1 ⟨b1, rfl, hb1, ht, hf⟩
          cases b1
          · have HF := Lib.hid (hf rfl)
            have HB1 := Lib.hid (HB.out.trans hb1)
            clear ht hf hb1
            go_wp2_with fail
            go_end0
            exact ⟨rfl, HB1.out, HF.out⟩
          · have HF := Lib.hid (ht rfl)
            have HB1 := Lib.hid (HB.out.trans hb1)
            clear ht hf hb1
            go_wp2_with fail
            go_roundw
            case rel => exact ⟨i + 1, by omega, by go_num, HF.out, HB1.out⟩
            case measure => simp [intOf]; omega
        · obtain rfl : i = dn := by omega
          go_wp2_with fail
          go_end0
          exact ⟨rfl, J2.out, HE.out _ (by rw [HP.out, List.length_map]; have := HO.out.dn; simp only at this; rw [← this]; exact J1.out)⟩
  · have HP : Hid (x.parts = x.l) := by
      have := HO.out.k
      simp only at this
      simp at h6
      simp [Hid, Val.parts, ← this, h6]
    go_enter Tryd.func94, Tryd.ntmps94
    go_wp2_with fail
    go_loopw [15] (fun v15 wr => ∃ i : Nat, i ≤ ln ∧ v15 = .int .i64 i ∧ Inv i wr ∧ But g w wr) (fun v15 _ => ln - (intOf v15).toNat)
    case atStart => exact ⟨0, Nat.zero_le _, rfl, H0.out, But.of_below ((Below.refl _ _).alloc (Nat.le_refl _) _)⟩
    case round =>
      obtain ⟨i, hi, rfl, I1, I2⟩ := hrel
      have J1 := Lib.hid I1
      have J2 := Lib.hid I2
      by_cases hlt : i < ln
      · obtain ⟨b, off, hLA, hbg, hel⟩ := HO.out.la (by show 0 < ln; omega)
        obtain ⟨y, hy⟩ : ∃ y, x.l[i]? = some y := ⟨_, List.getElem?_eq_getElem (by have := HO.out.ln; simp only at this; omega)⟩
        obtain ⟨u, hu, hr⟩ := hel i y hy
        simp only at hLA
        subst hLA
        obtain ⟨u0, u1, u2, u3, u4⟩ := hu.keep (I2.block b hu.lt hbg.1)
        have hb : b < wr.heap.size := by have := hu.lt; have := I2.size; omega
        have HR := Lib.hid ((hr.keepG (G := fun _ => True) fun q hq hl => ⟨trivial, I2.block q hl hq⟩).alloc (Obj.cells u.arr 78))
        have HI := Lib.hid (HT.out i wr _ I1 ((Below.refl _ _).alloc (Nat.le_refl _) (Obj.cells u.arr 78)))
        have HB := Lib.hid (I2.step ((Below.refl _ _).alloc (Nat.le_refl _) (Obj.cells u.arr 78)))
        have HY : Hid (x.parts[i]? = some y) := by rw [Hid, HP.out]; exact hy
        clear hel hr hu hy I1 I2
        go_wp2_with fail
        refine (HS.out i y u _ HY.out HI.out HB.out HR.out).mono ?_
        rintro e w1 ⟨b1, rfl, hb1, ht, hf⟩
        cases b1
        · have HF := Lib.hid (hf rfl)
          have HB1 := Lib.hid (HB.out.trans hb1)
          clear ht hf hb1
          go_wp2_with fail
          go_end0
          exact ⟨rfl, HB1.out, HF.out⟩
        · have HF := Lib.hid (ht rfl)
          have HB1 := Lib.hid (HB.out.trans hb1)
          clear ht hf hb1
          go_wp2_with fail
          go_roundw
          case rel => exact ⟨i + 1, by omega, by go_num, HF.out, HB1.out⟩
          case measure => simp [intOf]; omega
      · obtain rfl : i = ln := by omega
        go_wp2_with fail
        go_end0
        exact ⟨rfl, J2.out, HE.out _ (by rw [HP.out]; have := HO.out.ln; simp only at this; rw [← this]; exact J1.out)⟩

theorem wrap_i64 {a : Int} (h1 : -9223372036854775808 ≤ a) (h2 : a ≤ 9223372036854775807) : IntKind.i64.wrap a = a := IntWalk.i64_in _ ⟨h1, h2⟩

/-- the contract of nodes at one value -/
def NodesAt (x : Val) : Prop := ∀ (c : VC) (most : Int) (w : World), RW w c x → 1 ≤ most → most ≤ 1025 →
    Calls Tryd.prog 87 #[c.val, .int .i64 most] w fun e w' => e = .returned (.int .i64 (nodesI x most)) ∧ Below w.heap.size w w'

set_option maxHeartbeats 1000000 in
theorem nodes1_any (y : Val) (ih : NodesAt y) (u : VC) (g m : Nat) (n most : Int) (w : World) (h : RW w u y) (hg : Blk w g 3 #[.int .i64 n]) (hm : Blk w m 3 #[.int .i64 most]) (hne : m ≠ g) (h1 : 1 ≤ n) (h2 : n < most) (h3 : most ≤ 1025) :
    Calls Tryd.prog 95 #[u.val, .pointer (some ⟨g, 0, none⟩), .pointer (some ⟨m, 0, none⟩)] w fun e w' => e = .returned (.bool (decide (n + nodesI y (most - n) < most))) ∧ But g w w' ∧ Blk w' g 3 #[.int .i64 (n + nodesI y (most - n))] := by
  have HG := Lib.hid (hg.alloc (Obj.cells u.arr 78))
  have HM := Lib.hid (hm.alloc (Obj.cells u.arr 78))
  have HU : Hid (Blk (w.alloc (Obj.cells u.arr 78)) w.heap.size 78 u.arr) := Blk.new_at rfl
  have H := Lib.hid (h.alloc (Obj.cells u.arr 78))
  have HB := Lib.hid ((Below.refl w.heap.size w).alloc (Nat.le_refl _) (Obj.cells u.arr 78))
  have IH := Lib.hid ih
  have hgl := hg.lt
  have hml := hm.lt
  have r1 : 1 ≤ nodesI y (most - n) ∧ nodesI y (most - n) ≤ most - n := by
    have := size_pos y
    unfold nodesI
    omega
  clear h hg hm ih
  go_enter Tryd.func95, Tryd.ntmps95
  go_wp2_with fail
  generalize w.alloc (Obj.cells u.arr 78) = w1 at *
  have E0 : ∀ q : BW w1, q.val.cell? ⟨g, 0, none⟩ = some (.int .i64 n) := fun q => q.cell (HG.out.cell 0)
  have E1 : ∀ q : BW w1, q.val.cell? ⟨m, 0, none⟩ = some (.int .i64 most) := fun q => q.cell (HM.out.cell 0)
  have E2 : ∀ q : BW w1, q.val.cell? ⟨w.heap.size, 0, none⟩ = some (.int .i64 u.k) := fun q => q.cell (HU.out.cell 0)
  have E3 : ∀ q : BW w1, q.val.cell? ⟨w.heap.size, 1, none⟩ = some (.int .i64 u.n) := fun q => q.cell (HU.out.cell 1)
  have E4 : ∀ q : BW w1, q.val.cell? ⟨w.heap.size, 2, none⟩ = some (.string u.t) := fun q => q.cell (HU.out.cell 2)
  have E5 : ∀ q : BW w1, q.val.cell? ⟨w.heap.size, 3, none⟩ = some (.slice u.LA u.ln u.lc) := fun q => q.cell (HU.out.cell 3)
  have E6 : ∀ q : BW w1, q.val.cell? ⟨w.heap.size, 4, none⟩ = some (.slice u.DA u.dn u.dc) := fun q => q.cell (HU.out.cell 4)
  have W1 : IntKind.i64.wrap (most - n) = most - n := wrap_i64 (by omega) (by omega)
  have W2 : IntKind.i64.wrap (n + nodesI y (most - n)) = n + nodesI y (most - n) := wrap_i64 (by omega) (by omega)
  have K1 : Hid (∀ q : BW w1, Calls Tryd.prog 87 #[u.val, .int .i64 (most - n)] q.val fun e w'' => e = .returned (.int .i64 (nodesI y (most - n))) ∧ ∃ q : BW w1, w'' = q.val) := fun q =>
    Calls.bw (IH.out u (most - n) q.val (H.out.step q.below) (by omega) (by omega))
  refine wp_region_bw_tail 7 (by kernel_rfl) (by kernel_rfl) ?_
  simp only [List.take_succ_cons, List.take_zero, List.drop_succ_cons, List.drop_zero]
  repeat (go_big_quiet_step (with_reducible exact K1.out _))
  refine wpQuiet_nil ?_
  rintro _ ⟨kw, rfl⟩
  have F0 := (HG.out.step kw.below).frozen 0
  have JG := Lib.hid ((HG.out.step kw.below).set_ 0 (.int .i64 (n + nodesI y (most - n))))
  have JB := Lib.hid ((But.of_below (g := g) (HB.out.step' kw.below)).set (p := ⟨g, 0, none⟩) rfl (.int .i64 (n + nodesI y (most - n))))
  have e0 := E0 kw
  have e1 := E1 kw
  have hnm : g ≠ m := fun e => hne e.symm
  clear E0 E1 E2 E3 E4 E5 E6 K1 W1 W2 HG HM HU H HB IH
  generalize kw.val = w2 at *
  go_wp2_with fail
  go_ret
  exact ⟨rfl, JB.out, JG.out⟩

/-- the contract of depth at one value -/
def DepthAt (x : Val) : Prop := ∀ (c : VC) (most : Int) (w : World), RW w c x → 1 ≤ most → most ≤ 17 →
    Calls Tryd.prog 88 #[c.val, .int .i64 most] w fun e w' => e = .returned (.int .i64 (depthI x most)) ∧ Below w.heap.size w w'

set_option maxHeartbeats 1000000 in
theorem depth1_any (y : Val) (ih : DepthAt y) (u : VC) (g m : Nat) (n most : Int) (w : World) (h : RW w u y) (hg : Blk w g 3 #[.int .i64 n]) (hm : Blk w m 3 #[.int .i64 most]) (hne : m ≠ g) (h1 : 0 ≤ n) (h2 : n < most - 1) (h3 : most ≤ 17) :
    Calls Tryd.prog 96 #[u.val, .pointer (some ⟨g, 0, none⟩), .pointer (some ⟨m, 0, none⟩)] w fun e w' => e = .returned (.bool (decide (max n (depthI y (most - 1)) < most - 1))) ∧ But g w w' ∧ Blk w' g 3 #[.int .i64 (max n (depthI y (most - 1)))] := by
  have HG := Lib.hid (hg.alloc (Obj.cells u.arr 78))
  have HM := Lib.hid (hm.alloc (Obj.cells u.arr 78))
  have HU : Hid (Blk (w.alloc (Obj.cells u.arr 78)) w.heap.size 78 u.arr) := Blk.new_at rfl
  have H := Lib.hid (h.alloc (Obj.cells u.arr 78))
  have HB := Lib.hid ((Below.refl w.heap.size w).alloc (Nat.le_refl _) (Obj.cells u.arr 78))
  have IH := Lib.hid ih
  have hgl := hg.lt
  have hml := hm.lt
  have r1 : 1 ≤ depthI y (most - 1) ∧ depthI y (most - 1) ≤ most - 1 := by
    have := height_pos y
    unfold depthI
    omega
  clear h hg hm ih
  by_cases hle : n < depthI y (most - 1)
  · have HX : Hid (max n (depthI y (most - 1)) = depthI y (most - 1)) := by unfold Hid; omega
    go_enter Tryd.func96, Tryd.ntmps96
    go_wp2_with fail
    generalize w.alloc (Obj.cells u.arr 78) = w1 at *
    have E0 : ∀ q : BW w1, q.val.cell? ⟨g, 0, none⟩ = some (.int .i64 n) := fun q => q.cell (HG.out.cell 0)
    have E1 : ∀ q : BW w1, q.val.cell? ⟨m, 0, none⟩ = some (.int .i64 most) := fun q => q.cell (HM.out.cell 0)
    have E2 : ∀ q : BW w1, q.val.cell? ⟨w.heap.size, 0, none⟩ = some (.int .i64 u.k) := fun q => q.cell (HU.out.cell 0)
    have E3 : ∀ q : BW w1, q.val.cell? ⟨w.heap.size, 1, none⟩ = some (.int .i64 u.n) := fun q => q.cell (HU.out.cell 1)
    have E4 : ∀ q : BW w1, q.val.cell? ⟨w.heap.size, 2, none⟩ = some (.string u.t) := fun q => q.cell (HU.out.cell 2)
    have E5 : ∀ q : BW w1, q.val.cell? ⟨w.heap.size, 3, none⟩ = some (.slice u.LA u.ln u.lc) := fun q => q.cell (HU.out.cell 3)
    have E6 : ∀ q : BW w1, q.val.cell? ⟨w.heap.size, 4, none⟩ = some (.slice u.DA u.dn u.dc) := fun q => q.cell (HU.out.cell 4)
    have W1 : IntKind.i64.wrap (most - 1) = most - 1 := wrap_i64 (by omega) (by omega)
    have K1 : Hid (∀ q : BW w1, Calls Tryd.prog 88 #[u.val, .int .i64 (most - 1)] q.val fun e w'' => e = .returned (.int .i64 (depthI y (most - 1))) ∧ ∃ q : BW w1, w'' = q.val) := fun q =>
      Calls.bw (IH.out u (most - 1) q.val (H.out.step q.below) (by omega) (by omega))
    refine wp_region_bw_tail 6 (by kernel_rfl) (by kernel_rfl) ?_
    simp only [List.take_succ_cons, List.take_zero, List.drop_succ_cons, List.drop_zero]
    repeat (go_big_quiet_step (with_reducible exact K1.out _))
    refine wpQuiet_nil ?_
    rintro _ ⟨kw, rfl⟩
    have F0 := (HG.out.step kw.below).frozen 0
    have JG := Lib.hid ((HG.out.step kw.below).set_ 0 (.int .i64 (depthI y (most - 1))))
    have JB := Lib.hid ((But.of_below (g := g) (HB.out.step' kw.below)).set (p := ⟨g, 0, none⟩) rfl (.int .i64 (depthI y (most - 1))))
    have e0 := E0 kw
    have e1 := E1 kw
    have hnm : g ≠ m := fun e => hne e.symm
    clear E0 E1 E2 E3 E4 E5 E6 K1 W1 HG HM HU H HB IH
    generalize kw.val = w2 at *
    go_wp2_with fail
    go_ret
    exact ⟨by rw [HX.out]; first | rfl | (rw [decide_eq_true h2]; rfl), JB.out, by rw [HX.out]; exact JG.out⟩
  · have HX : Hid (max n (depthI y (most - 1)) = n) := by unfold Hid; omega
    go_enter Tryd.func96, Tryd.ntmps96
    go_wp2_with fail
    generalize w.alloc (Obj.cells u.arr 78) = w1 at *
    have E0 : ∀ q : BW w1, q.val.cell? ⟨g, 0, none⟩ = some (.int .i64 n) := fun q => q.cell (HG.out.cell 0)
    have E1 : ∀ q : BW w1, q.val.cell? ⟨m, 0, none⟩ = some (.int .i64 most) := fun q => q.cell (HM.out.cell 0)
    have E2 : ∀ q : BW w1, q.val.cell? ⟨w.heap.size, 0, none⟩ = some (.int .i64 u.k) := fun q => q.cell (HU.out.cell 0)
    have E3 : ∀ q : BW w1, q.val.cell? ⟨w.heap.size, 1, none⟩ = some (.int .i64 u.n) := fun q => q.cell (HU.out.cell 1)
    have E4 : ∀ q : BW w1, q.val.cell? ⟨w.heap.size, 2, none⟩ = some (.string u.t) := fun q => q.cell (HU.out.cell 2)
    have E5 : ∀ q : BW w1, q.val.cell? ⟨w.heap.size, 3, none⟩ = some (.slice u.LA u.ln u.lc) := fun q => q.cell (HU.out.cell 3)
    have E6 : ∀ q : BW w1, q.val.cell? ⟨w.heap.size, 4, none⟩ = some (.slice u.DA u.dn u.dc) := fun q => q.cell (HU.out.cell 4)
    have W1 : IntKind.i64.wrap (most - 1) = most - 1 := wrap_i64 (by omega) (by omega)
    have K1 : Hid (∀ q : BW w1, Calls Tryd.prog 88 #[u.val, .int .i64 (most - 1)] q.val fun e w'' => e = .returned (.int .i64 (depthI y (most - 1))) ∧ ∃ q : BW w1, w'' = q.val) := fun q =>
      Calls.bw (IH.out u (most - 1) q.val (H.out.step q.below) (by omega) (by omega))
    refine wp_region_bw_tail 6 (by kernel_rfl) (by kernel_rfl) ?_
    simp only [List.take_succ_cons, List.take_zero, List.drop_succ_cons, List.drop_zero]
    repeat (go_big_quiet_step (with_reducible exact K1.out _))
    refine wpQuiet_nil ?_
    rintro _ ⟨kw, rfl⟩
    have F0 := (HG.out.step kw.below).frozen 0
    have JG := Lib.hid ((HG.out.step kw.below).set_ 0 (.int .i64 n))
    have JB := Lib.hid ((But.of_below (g := g) (HB.out.step' kw.below)).set (p := ⟨g, 0, none⟩) rfl (.int .i64 n))
    have e0 := E0 kw
    have e1 := E1 kw
    have hnm : g ≠ m := fun e => hne e.symm
    clear E0 E1 E2 E3 E4 E5 E6 K1 W1 HG HM HU H HB IH
    generalize kw.val = w2 at *
    go_wp2_with fail
    go_ret
    exact ⟨by rw [HX.out]; first | rfl | (rw [decide_eq_true h2]; rfl), JB.out, by rw [HX.out]; exact JG.out⟩

theorem Val.indP {p : Val → Prop} (h : ∀ x, (∀ y ∈ x.parts, p y) → p x) : ∀ x, p x := by
  intro x
  induction x using Val.ind with
  | h k n t l d ihl ihd =>
    refine h _ fun y hy => ?_
    unfold Val.parts at hy
    split at hy
    · exact ihl y hy
    · split at hy
      · obtain ⟨f, hf, rfl⟩ := List.mem_map.1 hy
        exact ihd f hf
      · simp at hy

def NInv (x : Val) (most : Int) (g m : Nat) (i : Nat) (wr : World) : Prop :=
  1 + (sizeL (x.parts.take i) : Int) < most ∧ Blk wr g 3 #[.int .i64 (1 + (sizeL (x.parts.take i) : Int))] ∧ Blk wr m 3 #[.int .i64 most]
theorem nodes_step {x y : Val} {i : Nat} {most : Int} (hy : x.parts[i]? = some y) :
    (decide (1 + (sizeL (x.parts.take i) : Int) + nodesI y (most - (1 + (sizeL (x.parts.take i) : Int))) < most) = true →
      1 + (sizeL (x.parts.take (i + 1)) : Int) < most ∧ 1 + (sizeL (x.parts.take i) : Int) + nodesI y (most - (1 + (sizeL (x.parts.take i) : Int))) = 1 + (sizeL (x.parts.take (i + 1)) : Int)) ∧
    (decide (1 + (sizeL (x.parts.take i) : Int) + nodesI y (most - (1 + (sizeL (x.parts.take i) : Int))) < most) = false →
      1 + (sizeL (x.parts.take i) : Int) + nodesI y (most - (1 + (sizeL (x.parts.take i) : Int))) = nodesI x most) := by
  have h1 := sizeL_snoc hy
  have h2 := sizeL_take x.parts (i + 1)
  have h3 := size_parts x
  unfold nodesI
  constructor
  · intro hd
    simp at hd
    omega
  · intro hd
    simp at hd
    omega

open Go.Shelf in
set_option maxHeartbeats 1000000 in
theorem nodes_any : ∀ x, NodesAt x := by
  refine Val.indP fun x ih => ?_
  intro c most w h h1 h2
  have hx := size_pos x
  cases hm : ((1 : Int) == most)
  · have hm' : 1 < most := by simp at hm; omega
    have H := Lib.hid h
    have IH := Lib.hid ih
    clear h ih
    go_enter Tryd.func87, Tryd.ntmps87
    go_wp2_with fail
    have B1 : Blk (((w.alloc (Obj.cells c.arr 78)).alloc (Obj.cells #[.int .i64 most] 3)).alloc (Obj.cells #[.int .i64 1] 3)) (w.heap.size + 1) 3 #[.int .i64 most] := (Blk.new_at (by simp)).alloc _
    have B2 : Blk (((w.alloc (Obj.cells c.arr 78)).alloc (Obj.cells #[.int .i64 most] 3)).alloc (Obj.cells #[.int .i64 1] 3)) (w.heap.size + 1 + 1) 3 #[.int .i64 1] := Blk.new_at (by simp)
    have B3 : Below w.heap.size w (((w.alloc (Obj.cells c.arr 78)).alloc (Obj.cells #[.int .i64 most] 3)).alloc (Obj.cells #[.int .i64 1] 3)) := (((Below.refl _ _).alloc (Nat.le_refl _) _).alloc (by simp) _).alloc (by simp; omega) _
    have B4 := H.out.lt.keepG (G := fun b => b ≠ w.heap.size + 1 + 1) (w' := (((w.alloc (Obj.cells c.arr 78)).alloc (Obj.cells #[.int .i64 most] 3)).alloc (Obj.cells #[.int .i64 1] 3))) fun b hb _ => ⟨by omega, B3.block b hb.2⟩
    have hsz : (((w.alloc (Obj.cells c.arr 78)).alloc (Obj.cells #[.int .i64 most] 3)).alloc (Obj.cells #[.int .i64 1] 3)).heap.size = w.heap.size + 3 := by simp
    refine (each_any 95 (w.heap.size + 1 + 1) (w.heap.size + 1) x c _ B4 (NInv x most (w.heap.size + 1 + 1) (w.heap.size + 1)) (fun wr => Blk wr (w.heap.size + 1 + 1) 3 #[.int .i64 (nodesI x most)]) (enters_of Tryd.func95 (by kernel_rfl) rfl) ⟨by simpa [sizeL] using hm', by simpa [sizeL] using B2, B1⟩ ?_ ?_ ?_).mono ?_
    · rintro i w1 w2 ⟨a, b, d⟩ hb
      exact ⟨a, b.step hb, d.step hb⟩
    · rintro i y u wr hy ⟨a, b, d⟩ hb hr
      obtain ⟨n1, n2⟩ := nodes_step (most := most) hy
      refine (nodes1_any y (IH.out y (List.mem_of_getElem? hy)) u _ _ _ most wr hr b d (by omega) (by omega) a h2).mono ?_
      rintro e w' ⟨rfl, k1, k2⟩
      refine ⟨_, rfl, k1, fun hd => ?_, fun hd => ?_⟩
      · obtain ⟨n3, n4⟩ := n1 hd
        rw [n4] at k2
        exact ⟨n3, k2, d.but k1 (by omega)⟩
      · rw [n2 hd] at k2
        exact k2
    · rintro wr ⟨a, b, d⟩
      rw [List.take_length] at a b
      have e : 1 + (sizeL x.parts : Int) = nodesI x most := by
        have := size_parts x
        unfold nodesI
        omega
      rw [e] at b
      exact b
    · rintro e w' ⟨rfl, hb, hf⟩
      have q := hf.cell 0
      simp at q
      have HB := Lib.hid (B3.trans (hb.below (by omega) (by omega)))
      clear B1 B2 B3 B4 hb hf H IH
      go_wp2_with fail
      go_ret
      exact ⟨rfl, HB.out⟩
  · obtain rfl : most = 1 := by simp at hm; omega
    clear h ih
    go_enter Tryd.func87, Tryd.ntmps87
    go_wp2_with fail
    go_ret
    refine ⟨?_, ((((Below.refl _ _).alloc (Nat.le_refl _) _).alloc (by simp) _).alloc (by simp; omega) _)⟩
    have e : nodesI x 1 = 1 := by unfold nodesI; omega
    rw [e]
    rfl

theorem ret_int {k : IntKind} {a b : Int} (h : a = b) : Ending.returned (.int k a) = .returned (.int k b) := by rw [h]
def DInv (x : Val) (most : Int) (g m : Nat) (i : Nat) (wr : World) : Prop :=
  (heightL (x.parts.take i) : Int) < most - 1 ∧ Blk wr g 3 #[.int .i64 (heightL (x.parts.take i) : Int)] ∧ Blk wr m 3 #[.int .i64 most]
theorem depth_step {x y : Val} {i : Nat} {most : Int} (hy : x.parts[i]? = some y) :
    (decide (max (heightL (x.parts.take i) : Int) (depthI y (most - 1)) < most - 1) = true →
      (heightL (x.parts.take (i + 1)) : Int) < most - 1 ∧ max (heightL (x.parts.take i) : Int) (depthI y (most - 1)) = (heightL (x.parts.take (i + 1)) : Int)) ∧
    (decide (max (heightL (x.parts.take i) : Int) (depthI y (most - 1)) < most - 1) = false → (heightL (x.parts.take i) : Int) < most - 1 →
      max (heightL (x.parts.take i) : Int) (depthI y (most - 1)) = depthI x most - 1) := by
  have h1 := heightL_snoc hy
  have h2 := heightL_take x.parts (i + 1)
  have h3 := height_parts x
  unfold depthI
  constructor
  · intro hd
    simp at hd
    omega
  · intro hd _
    simp at hd
    omega

open Go.Shelf in
set_option maxHeartbeats 1000000 in
theorem depth_any : ∀ x, DepthAt x := by
  refine Val.indP fun x ih => ?_
  intro c most w h h1 h2
  have hx := height_pos x
  cases hm : (most == 1)
  · have hm' : 1 < most := by simp at hm; omega
    have H := Lib.hid h
    have IH := Lib.hid ih
    clear h ih
    go_enter Tryd.func88, Tryd.ntmps88
    go_wp2_with fail
    have B1 : Blk (((w.alloc (Obj.cells c.arr 78)).alloc (Obj.cells #[.int .i64 most] 3)).alloc (Obj.cells #[.int .i64 0] 3)) (w.heap.size + 1) 3 #[.int .i64 most] := (Blk.new_at (by simp)).alloc _
    have B2 : Blk (((w.alloc (Obj.cells c.arr 78)).alloc (Obj.cells #[.int .i64 most] 3)).alloc (Obj.cells #[.int .i64 0] 3)) (w.heap.size + 1 + 1) 3 #[.int .i64 0] := Blk.new_at (by simp)
    have B3 : Below w.heap.size w (((w.alloc (Obj.cells c.arr 78)).alloc (Obj.cells #[.int .i64 most] 3)).alloc (Obj.cells #[.int .i64 0] 3)) := (((Below.refl _ _).alloc (Nat.le_refl _) _).alloc (by simp) _).alloc (by simp; omega) _
    have B4 := H.out.lt.keepG (G := fun b => b ≠ w.heap.size + 1 + 1) (w' := (((w.alloc (Obj.cells c.arr 78)).alloc (Obj.cells #[.int .i64 most] 3)).alloc (Obj.cells #[.int .i64 0] 3))) fun b hb _ => ⟨by omega, B3.block b hb.2⟩
    have hsz : (((w.alloc (Obj.cells c.arr 78)).alloc (Obj.cells #[.int .i64 most] 3)).alloc (Obj.cells #[.int .i64 0] 3)).heap.size = w.heap.size + 3 := by simp
    refine (each_any 96 (w.heap.size + 1 + 1) (w.heap.size + 1) x c _ B4 (DInv x most (w.heap.size + 1 + 1) (w.heap.size + 1)) (fun wr => Blk wr (w.heap.size + 1 + 1) 3 #[.int .i64 (depthI x most - 1)]) (enters_of Tryd.func96 (by kernel_rfl) rfl) ⟨by simp [heightL]; omega, by simpa [heightL] using B2, B1⟩ ?_ ?_ ?_).mono ?_
    · rintro i w1 w2 ⟨a, b, d⟩ hb
      exact ⟨a, b.step hb, d.step hb⟩
    · rintro i y u wr hy ⟨a, b, d⟩ hb hr
      obtain ⟨n1, n2⟩ := depth_step (most := most) hy
      refine (depth1_any y (IH.out y (List.mem_of_getElem? hy)) u _ _ _ most wr hr b d (by omega) (by omega) a h2).mono ?_
      rintro e w' ⟨rfl, k1, k2⟩
      refine ⟨_, rfl, k1, fun hd => ?_, fun hd => ?_⟩
      · obtain ⟨n3, n4⟩ := n1 hd
        rw [n4] at k2
        exact ⟨n3, k2, d.but k1 (by omega)⟩
      · rw [n2 hd a] at k2
        exact k2
    · rintro wr ⟨a, b, d⟩
      rw [List.take_length] at a b
      have e : (heightL x.parts : Int) = depthI x most - 1 := by
        have := height_parts x
        unfold depthI
        omega
      rw [e] at b
      exact b
    · rintro e w' ⟨rfl, hb, hf⟩
      have q := hf.cell 0
      simp at q
      have HB := Lib.hid (B3.trans (hb.below (by omega) (by omega)))
      clear B1 B2 B3 B4 hb hf H IH
      have r1 : 1 ≤ depthI x most ∧ depthI x most ≤ 17 := by unfold depthI; omega
      go_wp2_with fail
      go_ret
      exact ⟨ret_int (by omega), HB.out⟩
  · obtain rfl : most = 1 := by simp at hm; omega
    clear h ih
    go_enter Tryd.func88, Tryd.ntmps88
    go_wp2_with fail
    go_ret
    refine ⟨?_, (((Below.refl _ _).alloc (Nat.le_refl _) _).alloc (by simp) _)⟩
    have e : depthI x 1 = 1 := by unfold depthI; omega
    rw [e]
    rfl

end Go.Proofs.YtgcklgkhdokchaaDoor
