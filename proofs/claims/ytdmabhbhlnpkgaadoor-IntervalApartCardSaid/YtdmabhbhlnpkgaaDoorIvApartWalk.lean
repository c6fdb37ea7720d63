/- The walk of the law IntervalApart. (Printed by gen_apart.py.) -/
import Derived.Test.YtdmabhbhlnpkgaaDoorIvBaseC
import Derived.Test.YtdmabhbhlnpkgaaDoorIvBaseB
import Derived.Test.YtdmabhbhlnpkgaaDoorValFormed
import Derived.Test.YtdmabhbhlnpkgaaDoorValRefCmp
namespace Go.Proofs.YtdmabhbhlnpkgaaDoor
open Go.RowKit

theorem cut_lt {a b : Cut} (h : cmC a b < 0) : cmpV a.1 b.1 < 0 ∨ (cmpV a.1 b.1 = 0 ∧ a.2 = false ∧ b.2 = true) := by
  by_cases h0 : cmpV a.1 b.1 = 0
  · rw [cmC_zero h0] at h
    refine .inr ⟨h0, ?_⟩
    cases ha : a.2 <;> cases hb : b.2 <;> rw [ha, hb] at h <;> first | exact ⟨rfl, rfl⟩ | (exact absurd h (by decide))
  · rw [cmC_ne h0] at h
    exact .inl h
theorem nf_at {ys : List PI} {n : List (Cut × Cut)} (hy : ys.map ivP = n.map ivOf) {i : Nat} {p : PI} (hp : ys[i]? = some p) : ∃ s, n[i]? = some s ∧ p.1.1.2 = s.1.1 ∧ p.1.2.2 = s.2.1 ∧ p.2.1 = !s.1.2 ∧ p.2.2 = s.2.2 := by
  have h1 : (ys.map ivP)[i]? = some (ivP p) := by rw [List.getElem?_map, hp]; rfl
  rw [hy, List.getElem?_map] at h1
  obtain ⟨s, hs, e⟩ := Option.map_eq_some_iff.1 h1
  exact ⟨s, hs, (congrArg Iv.lo e).symm, (congrArg Iv.hi e).symm, (congrArg Iv.li e).symm, (congrArg Iv.hin e).symm⟩
theorem nf_one {ys : List PI} {n : List (Cut × Cut)} (hn : NF cmC VC1 n) (hy : ys.map ivP = n.map ivOf) {i : Nat} {p : PI} (hp : ys[i]? = some p) :
    validV p.1.1.2 = true ∧ validV p.1.2.2 = true ∧ (cmpV p.1.1.2 p.1.2.2 < 0 ∨ (cmpV p.1.1.2 p.1.2.2 = 0 ∧ p.2.1 = true ∧ p.2.2 = true)) := by
  obtain ⟨s, hs, e1, e2, e3, e4⟩ := nf_at hy hp
  have h := hn.ne s (List.mem_of_getElem? hs)
  rw [e1, e2, e3, e4]
  refine ⟨h.2.1, h.2.2, ?_⟩
  rcases cut_lt h.1 with k | ⟨k1, k2, k3⟩
  · exact .inl k
  · exact .inr ⟨k1, by rw [k2]; rfl, k3⟩
theorem nf_pair {ys : List PI} {n : List (Cut × Cut)} (hn : NF cmC VC1 n) (hy : ys.map ivP = n.map ivOf) {i : Nat} {q p : PI} (hq : ys[i]? = some q) (hp : ys[i + 1]? = some p) :
    cmpV q.1.2.2 p.1.1.2 < 0 ∨ (cmpV q.1.2.2 p.1.1.2 = 0 ∧ q.2.2 = false ∧ p.2.1 = false) := by
  obtain ⟨s, hs, _, e2, _, e4⟩ := nf_at hy hq
  obtain ⟨t, ht, d1, _, d3, _⟩ := nf_at hy hp
  have hs' := (List.getElem?_eq_some_iff.1 hs)
  have ht' := (List.getElem?_eq_some_iff.1 ht)
  obtain ⟨hs1, hs2⟩ := hs'
  obtain ⟨ht1, ht2⟩ := ht'
  have h := List.pairwise_iff_getElem.1 hn.ord i (i + 1) hs1 ht1 (by omega)
  rw [hs2, ht2] at h
  rw [e2, e4, d1, d3]
  rcases cut_lt h with k | ⟨k1, k2, k3⟩
  · exact .inl k
  · exact .inr ⟨k1, k2, by rw [k3]; rfl⟩

set_option maxRecDepth 100000 in
set_option maxHeartbeats 4000000 in
theorem intervalApart_walk (A : Option Addr) (n c : Nat) (is : List PI) (w : World) (hT : Tabs w) (h : SI w A n c is) :
    Calls Tryd.prog 6 #[.slice A n c] w fun e w' => e = .returned (.bool true) ∧ Below w.heap.size w w' := by
  have HT := Lib.hid hT
  have H := Lib.hid h
  clear hT h
  go_enter Tryd.func6, Tryd.ntmps6
  go_wp2_with fail
  refine (few_any is A n c _ H.out).mono ?_
  rintro e w1 ⟨r, rfl, h40, hb1⟩
  have Z1 := Lib.hid hb1
  clear hb1
  cases r
  · clear h40
    go_wp2_with fail
    refine (awake24_any _ (HT.out.step Z1.out)).mono ?_
    rintro e w9 ⟨rfl, hb9⟩
    go_wp2_with fail
    go_ret
    exact ⟨rfl, Z1.out.step' hb9⟩
  have h4 : n ≤ 40 := h40 rfl
  clear h40
  go_wp2_with fail
  refine (normal_any is A n c _ (HT.out.step Z1.out) (H.out.step Z1.out) (by omega)).mono ?_
  rintro e w2 ⟨A2, m, c2, ys, nn, rfl, hyn, hnf, hmn, hsi, hb2⟩
  have HYn := Lib.hid hyn
  have HN := Lib.hid hnf.1
  have HS := Lib.hid hsi
  have HM := Lib.hid hsi.sr.ln
  have Z2 := Lib.hid (Z1.out.step' hb2)
  clear hyn hnf hsi hb2 Z1
  go_wp2_with fail
  go_loopw [4, 5] (fun v4 _ wr => ∃ i : Nat, i ≤ m ∧ v4 = .int .i64 i ∧ Below w2.heap.size w2 wr) (fun v4 _ _ => m - (intOf v4).toNat)
  case atStart => exact ⟨0, Nat.zero_le _, rfl, Below.refl _ _⟩
  case round =>
    obtain ⟨i, hi, rfl, I⟩ := hrel
    have J := Lib.hid I
    by_cases hlt : i < m
    · obtain ⟨p, hp⟩ : ∃ p, ys[i]? = some p := ⟨_, List.getElem?_eq_getElem (by have := HM.out; omega)⟩
      obtain ⟨v1, v2, hone⟩ := nf_one HN.out HYn.out hp
      have V1 := Lib.hid v1
      have V2 := Lib.hid v2
      have HOne := Lib.hid hone
      obtain ⟨b, off, rfl, hbl, hat, hok⟩ := HS.out.at hp
      have HP := Lib.hid hp
      have HA := Lib.hid hat
      have HOk := Lib.hid hok
      obtain ⟨⟨x0, x1, x2, x3, x4⟩, ⟨y0, y1, y2, y3, y4⟩, _, _⟩ := hat.keep (I.block b hbl)
      clear hp hat hok v1 v2 hone I
      have X0 : ∀ kk : BW wr, kk.val.cell? ⟨b, off + i * 12, none⟩ = some (.int .i64 p.1.1.1.k) := fun kk => kk.cell x0
      have X1 : ∀ kk : BW wr, kk.val.cell? ⟨b, off + i * 12 + 1, none⟩ = some (.int .i64 p.1.1.1.n) := fun kk => kk.cell x1
      have X2 : ∀ kk : BW wr, kk.val.cell? ⟨b, off + i * 12 + 2, none⟩ = some (.string p.1.1.1.t) := fun kk => kk.cell x2
      have X3 : ∀ kk : BW wr, kk.val.cell? ⟨b, off + i * 12 + 3, none⟩ = some (.slice p.1.1.1.LA p.1.1.1.ln p.1.1.1.lc) := fun kk => kk.cell x3
      have X4 : ∀ kk : BW wr, kk.val.cell? ⟨b, off + i * 12 + 4, none⟩ = some (.slice p.1.1.1.DA p.1.1.1.dn p.1.1.1.dc) := fun kk => kk.cell x4
      have Y0 : ∀ kk : BW wr, kk.val.cell? ⟨b, off + i * 12 + 5, none⟩ = some (.int .i64 p.1.2.1.k) := fun kk => kk.cell y0
      have Y1 : ∀ kk : BW wr, kk.val.cell? ⟨b, off + i * 12 + 5 + 1, none⟩ = some (.int .i64 p.1.2.1.n) := fun kk => kk.cell y1
      have Y2 : ∀ kk : BW wr, kk.val.cell? ⟨b, off + i * 12 + 5 + 2, none⟩ = some (.string p.1.2.1.t) := fun kk => kk.cell y2
      have Y3 : ∀ kk : BW wr, kk.val.cell? ⟨b, off + i * 12 + 5 + 3, none⟩ = some (.slice p.1.2.1.LA p.1.2.1.ln p.1.2.1.lc) := fun kk => kk.cell y3
      have Y4 : ∀ kk : BW wr, kk.val.cell? ⟨b, off + i * 12 + 5 + 4, none⟩ = some (.slice p.1.2.1.DA p.1.2.1.dn p.1.2.1.dc) := fun kk => kk.cell y4
      have i0 : (0 : Int) ≤ (i : Int) := by omega
      have i1 : (i : Int) < (m : Int) := by omega
      have K1 : Hid (∀ kk : BW wr, Calls Tryd.prog 22 #[p.1.1.1.val, p.1.2.1.val] kk.val fun e w'' => e = .returned (.int .i64 (cmpV p.1.1.2 p.1.2.2)) ∧ ∃ kk : BW wr, w'' = kk.val) := fun kk =>
        Calls.bw (rcmp_any p.1.1.2 p.1.2.2 p.1.1.1 p.1.2.1 kk.val ((HOk.out.step J.out).1.step kk.below) ((HOk.out.step J.out).2.step kk.below))
      clear x0 x1 x2 x3 x4 y0 y1 y2 y3 y4
      go_upto_region 7 with fail
      refine wp_region_bw (by kernel_rfl) (by kernel_rfl) ?_
      repeat (go_big_quiet_step (with_reducible exact K1.out _))
      refine wpQuiet_nil ?_
      rintro _ ⟨kw, rfl⟩
      have J3 := Lib.hid (J.out.step' kw.below)
      clear X0 X1 X2 X3 X4 Y0 Y1 Y2 Y3 Y4 K1 i0 i1 J
      generalize kw.val = w3 at *
      rcases HOne.out with hc1 | ⟨hc1, hl1, hl2⟩
      · obtain ⟨⟨p0, p1, p2, p3, p4⟩, ⟨q0, q1, q2, q3, q4⟩, r0, r1⟩ := HA.out.keep (J3.out.block b hbl)
        have g1 : ¬ 0 < cmpV p.1.1.2 p.1.2.2 := by omega
        have g2 : (cmpV p.1.1.2 p.1.2.2 == 0) = false := by simp; omega
        go_wp2_with fail
        refine (rvalid_any p.1.1.2 p.1.1.1 _ (HOk.out.step J3.out).1).mono ?_
        rintro e w4 ⟨rfl, hb4⟩
        rw [V1.out]
        have J4 := Lib.hid (J3.out.step' hb4)
        clear hb4 p0 p1 p2 p3 p4 q0 q1 q2 q3 q4 r0 r1
        obtain ⟨⟨p0, p1, p2, p3, p4⟩, ⟨q0, q1, q2, q3, q4⟩, r0, r1⟩ := HA.out.keep (J4.out.block b hbl)
        go_wp2_with fail
        refine (rvalid_any p.1.2.2 p.1.2.1 _ (HOk.out.step J4.out).2).mono ?_
        rintro e w5 ⟨rfl, hb5⟩
        rw [V2.out]
        have J5 := Lib.hid (J4.out.step' hb5)
        clear hb5 p0 p1 p2 p3 p4 q0 q1 q2 q3 q4 r0 r1 J4
        obtain ⟨⟨p0, p1, p2, p3, p4⟩, ⟨q0, q1, q2, q3, q4⟩, r0, r1⟩ := HA.out.keep (J5.out.block b hbl)
        go_upto_region 10 with fail
        clear p0 p1 p2 p3 p4 q0 q1 q2 q3 q4 r0 r1
        by_cases hi0 : i = 0
        · have hz0 : ¬ 0 < i := by omega
          have HI0 := Lib.hid hi0
          clear hi0
          go_wp2_with fail
          go_roundw
          case rel => exact ⟨i + 1, by omega, by go_num, J5.out⟩
          case measure => simp [intOf]; omega
        · obtain ⟨q, hq⟩ : ∃ q, ys[i - 1]? = some q := ⟨_, List.getElem?_eq_getElem (by have := HM.out; omega)⟩
          have hsep := nf_pair HN.out HYn.out (i := i - 1) hq (by rw [show i - 1 + 1 = i by omega]; exact HP.out)
          obtain ⟨b', off', e', hbl', hat', hok'⟩ := HS.out.at hq
          cases e'
          have HQa := Lib.hid hat'
          have HQk := Lib.hid hok'
          clear hq hat' hok'
          obtain ⟨_, ⟨x0, x1, x2, x3, x4⟩, _, _⟩ := HQa.out.keep (J5.out.block b hbl)
          obtain ⟨⟨y0, y1, y2, y3, y4⟩, _, _, _⟩ := HA.out.keep (J5.out.block b hbl)
          have X0 : ∀ kk : BW w5, kk.val.cell? ⟨b, off + (i - 1) * 12 + 5, none⟩ = some (.int .i64 q.1.2.1.k) := fun kk => kk.cell x0
          have X1 : ∀ kk : BW w5, kk.val.cell? ⟨b, off + (i - 1) * 12 + 5 + 1, none⟩ = some (.int .i64 q.1.2.1.n) := fun kk => kk.cell x1
          have X2 : ∀ kk : BW w5, kk.val.cell? ⟨b, off + (i - 1) * 12 + 5 + 2, none⟩ = some (.string q.1.2.1.t) := fun kk => kk.cell x2
          have X3 : ∀ kk : BW w5, kk.val.cell? ⟨b, off + (i - 1) * 12 + 5 + 3, none⟩ = some (.slice q.1.2.1.LA q.1.2.1.ln q.1.2.1.lc) := fun kk => kk.cell x3
          have X4 : ∀ kk : BW w5, kk.val.cell? ⟨b, off + (i - 1) * 12 + 5 + 4, none⟩ = some (.slice q.1.2.1.DA q.1.2.1.dn q.1.2.1.dc) := fun kk => kk.cell x4
          have Y0 : ∀ kk : BW w5, kk.val.cell? ⟨b, off + i * 12, none⟩ = some (.int .i64 p.1.1.1.k) := fun kk => kk.cell y0
          have Y1 : ∀ kk : BW w5, kk.val.cell? ⟨b, off + i * 12 + 1, none⟩ = some (.int .i64 p.1.1.1.n) := fun kk => kk.cell y1
          have Y2 : ∀ kk : BW w5, kk.val.cell? ⟨b, off + i * 12 + 2, none⟩ = some (.string p.1.1.1.t) := fun kk => kk.cell y2
          have Y3 : ∀ kk : BW w5, kk.val.cell? ⟨b, off + i * 12 + 3, none⟩ = some (.slice p.1.1.1.LA p.1.1.1.ln p.1.1.1.lc) := fun kk => kk.cell y3
          have Y4 : ∀ kk : BW w5, kk.val.cell? ⟨b, off + i * 12 + 4, none⟩ = some (.slice p.1.1.1.DA p.1.1.1.dn p.1.1.1.dc) := fun kk => kk.cell y4
          have i0 : (0 : Int) ≤ (i : Int) := by omega
          have i1 : (i : Int) < (m : Int) := by omega
          have i2 : (0 : Int) ≤ (i : Int) - 1 := by omega
          have i3 : (i : Int) - 1 < (m : Int) := by omega
          have W1 : IntKind.i64.wrap ((i : Int) - 1) = (i : Int) - 1 := wrap_i64' (by omega) (by omega)
          have W2 : ((i : Int) - 1).toNat = i - 1 := by omega
          have hpos : 0 < i := by omega
          have K1 : Hid (∀ kk : BW w5, Calls Tryd.prog 22 #[q.1.2.1.val, p.1.1.1.val] kk.val fun e w'' => e = .returned (.int .i64 (cmpV q.1.2.2 p.1.1.2)) ∧ ∃ kk : BW w5, w'' = kk.val) := fun kk =>
            Calls.bw (rcmp_any q.1.2.2 p.1.1.2 q.1.2.1 p.1.1.1 kk.val ((HQk.out.step J5.out).2.step kk.below) ((HOk.out.step J5.out).1.step kk.below))
          have HSep := Lib.hid hsep
          clear hsep x0 x1 x2 x3 x4 y0 y1 y2 y3 y4
          go_upto_region 11 with fail
          refine wp_region_bw (by kernel_rfl) (by kernel_rfl) ?_
          repeat (go_big_quiet_step (with_reducible exact K1.out _))
          refine wpQuiet_nil ?_
          rintro _ ⟨kw, rfl⟩
          have JX := Lib.hid (J5.out.step' kw.below)
          clear X0 X1 X2 X3 X4 Y0 Y1 Y2 Y3 Y4 K1 W1 W2 i0 i1 i2 i3
          generalize kw.val = wx at *
          rcases HSep.out with hc2 | ⟨hc2, hc3, hc4⟩
          · have g1 : ¬ 0 < cmpV q.1.2.2 p.1.1.2 := by omega
            have g2 : (cmpV q.1.2.2 p.1.1.2 == 0) = false := by simp; omega
            go_wp2_with fail
            go_roundw
            case rel => exact ⟨i + 1, by omega, by go_num, JX.out⟩
            case measure => simp [intOf]; omega
          · rw [hc2]
            obtain ⟨_, _, _, z1⟩ := HQa.out.keep (JX.out.block b hbl)
            obtain ⟨_, _, z2, _⟩ := HA.out.keep (JX.out.block b hbl)
            rw [hc3] at z1
            rw [hc4] at z2
            have i0 : (0 : Int) ≤ (i : Int) - 1 := by omega
            have i1 : (i : Int) - 1 < (m : Int) := by omega
            have W2 : ((i : Int) - 1).toNat = i - 1 := by omega
            clear hc2 hc3 hc4
            go_wp2_with fail
            go_roundw
            case rel => exact ⟨i + 1, by omega, by go_num, JX.out⟩
            case measure => simp [intOf]; omega
      · rw [hc1]
        obtain ⟨⟨p0, p1, p2, p3, p4⟩, ⟨q0, q1, q2, q3, q4⟩, r0, r1⟩ := HA.out.keep (J3.out.block b hbl)
        go_wp2_with fail
        refine (rvalid_any p.1.1.2 p.1.1.1 _ (HOk.out.step J3.out).1).mono ?_
        rintro e w4 ⟨rfl, hb4⟩
        rw [V1.out]
        have J4 := Lib.hid (J3.out.step' hb4)
        clear hb4 p0 p1 p2 p3 p4 q0 q1 q2 q3 q4 r0 r1
        obtain ⟨⟨p0, p1, p2, p3, p4⟩, ⟨q0, q1, q2, q3, q4⟩, r0, r1⟩ := HA.out.keep (J4.out.block b hbl)
        go_wp2_with fail
        refine (rvalid_any p.1.2.2 p.1.2.1 _ (HOk.out.step J4.out).2).mono ?_
        rintro e w5 ⟨rfl, hb5⟩
        rw [V2.out]
        have J5 := Lib.hid (J4.out.step' hb5)
        clear hb5 p0 p1 p2 p3 p4 q0 q1 q2 q3 q4 r0 r1 J4
        obtain ⟨⟨p0, p1, p2, p3, p4⟩, ⟨q0, q1, q2, q3, q4⟩, r0, r1⟩ := HA.out.keep (J5.out.block b hbl)
        rw [hl1] at r0
        rw [hl2] at r1
        go_upto_region 10 with fail
        clear p0 p1 p2 p3 p4 q0 q1 q2 q3 q4 r0 r1
        by_cases hi0 : i = 0
        · have hz0 : ¬ 0 < i := by omega
          have HI0 := Lib.hid hi0
          clear hi0
          go_wp2_with fail
          go_roundw
          case rel => exact ⟨i + 1, by omega, by go_num, J5.out⟩
          case measure => simp [intOf]; omega
        · obtain ⟨q, hq⟩ : ∃ q, ys[i - 1]? = some q := ⟨_, List.getElem?_eq_getElem (by have := HM.out; omega)⟩
          have hsep := nf_pair HN.out HYn.out (i := i - 1) hq (by rw [show i - 1 + 1 = i by omega]; exact HP.out)
          obtain ⟨b', off', e', hbl', hat', hok'⟩ := HS.out.at hq
          cases e'
          have HQa := Lib.hid hat'
          have HQk := Lib.hid hok'
          clear hq hat' hok'
          obtain ⟨_, ⟨x0, x1, x2, x3, x4⟩, _, _⟩ := HQa.out.keep (J5.out.block b hbl)
          obtain ⟨⟨y0, y1, y2, y3, y4⟩, _, _, _⟩ := HA.out.keep (J5.out.block b hbl)
          have X0 : ∀ kk : BW w5, kk.val.cell? ⟨b, off + (i - 1) * 12 + 5, none⟩ = some (.int .i64 q.1.2.1.k) := fun kk => kk.cell x0
          have X1 : ∀ kk : BW w5, kk.val.cell? ⟨b, off + (i - 1) * 12 + 5 + 1, none⟩ = some (.int .i64 q.1.2.1.n) := fun kk => kk.cell x1
          have X2 : ∀ kk : BW w5, kk.val.cell? ⟨b, off + (i - 1) * 12 + 5 + 2, none⟩ = some (.string q.1.2.1.t) := fun kk => kk.cell x2
          have X3 : ∀ kk : BW w5, kk.val.cell? ⟨b, off + (i - 1) * 12 + 5 + 3, none⟩ = some (.slice q.1.2.1.LA q.1.2.1.ln q.1.2.1.lc) := fun kk => kk.cell x3
          have X4 : ∀ kk : BW w5, kk.val.cell? ⟨b, off + (i - 1) * 12 + 5 + 4, none⟩ = some (.slice q.1.2.1.DA q.1.2.1.dn q.1.2.1.dc) := fun kk => kk.cell x4
          have Y0 : ∀ kk : BW w5, kk.val.cell? ⟨b, off + i * 12, none⟩ = some (.int .i64 p.1.1.1.k) := fun kk => kk.cell y0
          have Y1 : ∀ kk : BW w5, kk.val.cell? ⟨b, off + i * 12 + 1, none⟩ = some (.int .i64 p.1.1.1.n) := fun kk => kk.cell y1
          have Y2 : ∀ kk : BW w5, kk.val.cell? ⟨b, off + i * 12 + 2, none⟩ = some (.string p.1.1.1.t) := fun kk => kk.cell y2
          have Y3 : ∀ kk : BW w5, kk.val.cell? ⟨b, off + i * 12 + 3, none⟩ = some (.slice p.1.1.1.LA p.1.1.1.ln p.1.1.1.lc) := fun kk => kk.cell y3
          have Y4 : ∀ kk : BW w5, kk.val.cell? ⟨b, off + i * 12 + 4, none⟩ = some (.slice p.1.1.1.DA p.1.1.1.dn p.1.1.1.dc) := fun kk => kk.cell y4
          have i0 : (0 : Int) ≤ (i : Int) := by omega
          have i1 : (i : Int) < (m : Int) := by omega
          have i2 : (0 : Int) ≤ (i : Int) - 1 := by omega
          have i3 : (i : Int) - 1 < (m : Int) := by omega
          have W1 : IntKind.i64.wrap ((i : Int) - 1) = (i : Int) - 1 := wrap_i64' (by omega) (by omega)
          have W2 : ((i : Int) - 1).toNat = i - 1 := by omega
          have hpos : 0 < i := by omega
          have K1 : Hid (∀ kk : BW w5, Calls Tryd.prog 22 #[q.1.2.1.val, p.1.1.1.val] kk.val fun e w'' => e = .returned (.int .i64 (cmpV q.1.2.2 p.1.1.2)) ∧ ∃ kk : BW w5, w'' = kk.val) := fun kk =>
            Calls.bw (rcmp_any q.1.2.2 p.1.1.2 q.1.2.1 p.1.1.1 kk.val ((HQk.out.step J5.out).2.step kk.below) ((HOk.out.step J5.out).1.step kk.below))
          have HSep := Lib.hid hsep
          clear hsep x0 x1 x2 x3 x4 y0 y1 y2 y3 y4
          go_upto_region 11 with fail
          refine wp_region_bw (by kernel_rfl) (by kernel_rfl) ?_
          repeat (go_big_quiet_step (with_reducible exact K1.out _))
          refine wpQuiet_nil ?_
          rintro _ ⟨kw, rfl⟩
          have JX := Lib.hid (J5.out.step' kw.below)
          clear X0 X1 X2 X3 X4 Y0 Y1 Y2 Y3 Y4 K1 W1 W2 i0 i1 i2 i3
          generalize kw.val = wx at *
          rcases HSep.out with hc2 | ⟨hc2, hc3, hc4⟩
          · have g1 : ¬ 0 < cmpV q.1.2.2 p.1.1.2 := by omega
            have g2 : (cmpV q.1.2.2 p.1.1.2 == 0) = false := by simp; omega
            go_wp2_with fail
            go_roundw
            case rel => exact ⟨i + 1, by omega, by go_num, JX.out⟩
            case measure => simp [intOf]; omega
          · rw [hc2]
            obtain ⟨_, _, _, z1⟩ := HQa.out.keep (JX.out.block b hbl)
            obtain ⟨_, _, z2, _⟩ := HA.out.keep (JX.out.block b hbl)
            rw [hc3] at z1
            rw [hc4] at z2
            have i0 : (0 : Int) ≤ (i : Int) - 1 := by omega
            have i1 : (i : Int) - 1 < (m : Int) := by omega
            have W2 : ((i : Int) - 1).toNat = i - 1 := by omega
            clear hc2 hc3 hc4
            go_wp2_with fail
            go_roundw
            case rel => exact ⟨i + 1, by omega, by go_num, JX.out⟩
            case measure => simp [intOf]; omega
    · have hle : decide (m ≤ n) = true := decide_eq_true hmn
      clear I
      go_wp2_with fail
      refine (awake24_any _ (HT.out.step (Z2.out.step' J.out))).mono ?_
      rintro e w9 ⟨rfl, hb9⟩
      go_wp2_with fail
      go_ret
      exact ⟨rfl, (Z2.out.step' J.out).step' hb9⟩

end Go.Proofs.YtdmabhbhlnpkgaaDoor
