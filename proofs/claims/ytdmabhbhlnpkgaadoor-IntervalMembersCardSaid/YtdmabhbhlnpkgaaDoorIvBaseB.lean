/- The contract of interval.Meet. (Printed by gen_meet.py.) · The contract of the reference's Same at equal lists of intervals; the reference's All. · The contracts of docstoreref02.count and Few (what matters of them is that they return), and of the law's few. · Intervals of integers: what the law's awake needs. -/
import Derived.Test.YtdmabhbhlnpkgaaDoorIvBaseA
import Derived.Test.YtdmabhbhlnpkgaaDoorValSame
import Derived.Test.YtdmabhbhlnpkgaaDoorIvRec
namespace Go.Proofs.YtdmabhbhlnpkgaaDoor
open Go.RowKit

/-- the loop of Meet -/
structure MtI (w4 : World) (l m : List (Cut × Cut)) (i k : Nat) (v : Value) (cs : List PS) (wr : World) : Prop where
  own : wr.ownsRow w4.heap.size 54 12 v cs.length (flat recS cs)
  me : MeI cmC VC1 l m (l.drop i) (m.drop k) (cs.map spP)
  le : cs.length ≤ i + k
  ok : ∀ x ∈ cs, okS w4 x
  bel : Below w4.heap.size w4 wr
/-- the box of a round -/
structure MtB (w4 : World) (l m : List (Cut × Cut)) (i k : Nat) (v : Value) (cs : List PS) (ga : Nat) (u : PS) (wr : World) : Prop where
  i : MtI w4 l m i k v cs wr
  b : Blk wr ga 54 (arrS u)
  hg : w4.heap.size ≤ ga
  hno : v.ownBlock ≠ some ga
  oku : okS w4 u
section
variable {w4 : World} {l m : List (Cut × Cut)} {i k : Nat} {v : Value} {cs : List PS} {ga : Nat} {u : PS} {wr w' : World}
theorem MtI.step (h : MtI w4 l m i k v cs wr) (hb : Below wr.heap.size wr w') : MtI w4 l m i k v cs w' := ⟨own_step h.own hb, h.me, h.le, h.ok, h.bel.step' hb⟩
theorem MtB.step (h : MtB w4 l m i k v cs ga u wr) (hb : Below wr.heap.size wr w') : MtB w4 l m i k v cs ga u w' := ⟨h.i.step hb, h.b.step hb, h.hg, h.hno, h.oku⟩
theorem MtI.far (h : MtI w4 l m i k v cs wr) (hg : w4.heap.size ≤ ga) (hno : v.ownBlock ≠ some ga) (off : Nat) (q : PC) : MtI w4 l m i k v cs (setC wr ga off q) :=
  ⟨own_keep h.own fun g hh => heap_setC (by rintro rfl; exact hno hh), h.me, h.le, h.ok, below_setC h.bel hg _ _⟩
theorem MtB.put1 (h : MtB w4 l m i k v cs ga u wr) (q : PC) (hq : okC w4 q) : MtB w4 l m i k v cs ga (q, u.2) (setC wr ga 0 q) :=
  ⟨h.i.far h.hg h.hno 0 q, (((((h.b.set_ 0 _).set_ 1 _).set_ 2 _).set_ 3 _).set_ 4 _).set_ 5 _, h.hg, h.hno, ⟨hq, h.oku.2⟩⟩
theorem MtB.put2 (h : MtB w4 l m i k v cs ga u wr) (q : PC) (hq : okC w4 q) : MtB w4 l m i k v cs ga (u.1, q) (setC wr ga 6 q) :=
  ⟨h.i.far h.hg h.hno 6 q, (((((h.b.set_ 6 _).set_ 7 _).set_ 8 _).set_ 9 _).set_ 10 _).set_ 11 _, h.hg, h.hno, ⟨h.oku.1, hq⟩⟩
end
theorem maxS_pos {a b : Cut} (h : cmC a b < 0) : maxS cmC a b = b := if_pos h
theorem maxS_neg {a b : Cut} (h : ¬ cmC a b < 0) : maxS cmC a b = a := if_neg h
theorem minS_pos {a b : Cut} (h : cmC b a < 0) : minS cmC a b = b := if_pos h
theorem minS_neg {a b : Cut} (h : ¬ cmC b a < 0) : minS cmC a b = a := if_neg h

set_option maxRecDepth 100000 in
set_option maxHeartbeats 4000000 in
theorem meet_any (is js : List PI) (A B : Option Addr) (n c n' c' : Nat) (w : World) (hT : Tabs w) (h : SI w A n c is) (h' : SI w B n' c' js) (hn : n ≤ 40000) (hn' : n' ≤ 40000) :
    Calls Tryd.prog 24 #[.slice A n c, .slice B n' c'] w (NormOk (fun a => inS cmC a (spansL (is.map ivP)) ∧ inS cmC a (spansL (js.map ivP))) (n + n') w) := by
  obtain ⟨j0, hj0, hy0, hy1, hy2⟩ := info_parts info_span
  have HT := Lib.hid hT
  have H := Lib.hid h
  have H' := Lib.hid h'
  have HL := Lib.hid h.sr.ln
  have HL' := Lib.hid h'.sr.ln
  clear hT h h'
  go_enter Tryd.func24, Tryd.ntmps24
  go_wp2_with fail
  refine (spans_any is A n c _ HT.out H.out (by omega)).mono ?_
  rintro e w1 ⟨A1, m1, c1, xs, rfl, hxs, _, hm1, hss, hb1⟩
  have HX := Lib.hid hxs
  have HS1 := Lib.hid hss
  have HX1 := Lib.hid hss.sr.ln
  have HB1 := Lib.hid hb1
  have hm1n : m1 ≤ n := by have := HL.out; omega
  clear hxs hss hb1 hm1
  go_wp2_with fail
  refine (merged_any xs A1 m1 c1 _ HS1.out (by omega)).mono ?_
  rintro e w2 ⟨A2, nl, c2, ys, rfl, ⟨S, hS, hys⟩, _, _, hss2, hm2, hb2⟩
  have HY := Lib.hid (hS.merge (span_ne HX.out))
  rw [← hys] at HY
  have HS2 := Lib.hid hss2
  have HB2 := Lib.hid (HB1.out.step' hb2)
  have hnl : nl ≤ n := by have := HX1.out; omega
  clear hS hys hss2 hm2 hb2 HB1 HS1
  go_wp2_with fail
  refine (spans_any js B n' c' _ (HT.out.step HB2.out) (H'.out.step HB2.out) (by omega)).mono ?_
  rintro e w3 ⟨A3, m3, c3, xs', rfl, hxs, _, hm3, hss, hb3⟩
  have HX' := Lib.hid hxs
  have HS3 := Lib.hid hss
  have HX3 := Lib.hid hss.sr.ln
  have HB3 := Lib.hid (HB2.out.step' hb3)
  have HL3 := Lib.hid (HS2.out.step hb3)
  have hm3n : m3 ≤ n' := by have := HL'.out; omega
  clear hxs hss hb3 hm3 HS2 HB2
  go_wp2_with fail
  refine (merged_any xs' A3 m3 c3 _ HS3.out (by omega)).mono ?_
  rintro e w4 ⟨A4, nr, c4, zs, rfl, ⟨S', hS', hzs⟩, _, _, hss4, hm4, hb4⟩
  have HZ := Lib.hid (hS'.merge (span_ne HX'.out))
  rw [← hzs] at HZ
  have HR := Lib.hid hss4
  have HLf := Lib.hid (HL3.out.step hb4)
  have HB4 := Lib.hid (HB3.out.step' hb4)
  have hnr : nr ≤ n' := by have := HX3.out; omega
  have HLl := Lib.hid HLf.out.sr.ln
  have HRl := Lib.hid hss4.sr.ln
  have NL : Hid (NF cmC VC1 (ys.map spP)) := Lib.hid HY.out.1.1
  have NR : Hid (NF cmC VC1 (zs.map spP)) := Lib.hid HZ.out.1.1
  clear hS' hzs hss4 hm4 hb4 HB3 HL3 HS3
  go_wp2_with fail
  go_loopw [7, 8, 9] (fun v7 v8 v9 wr => ∃ (i k : Nat) (cs : List PS), i ≤ nl ∧ k ≤ nr ∧ v8 = .int .i64 i ∧ v9 = .int .i64 k ∧ MtI w4 (ys.map spP) (zs.map spP) i k v7 cs wr) (fun _ v8 v9 _ => (nl - (intOf v8).toNat) + (nr - (intOf v9).toNat))
  case atStart => exact ⟨0, 0, [], Nat.zero_le _, Nat.zero_le _, rfl, rfl, ⟨own_nil _ _ _ _, MeI.start, Nat.le_refl _, by simp, Below.refl _ _⟩⟩
  case round =>
    obtain ⟨i, k, cs, hi, hk, rfl, rfl, I⟩ := hrel
    have J := Lib.hid I
    by_cases hgo : i < nl ∧ k < nr
    · obtain ⟨hlt, hkt⟩ := hgo
      obtain ⟨s, hs⟩ : ∃ s, ys[i]? = some s := ⟨_, List.getElem?_eq_getElem (by have := HLl.out; omega)⟩
      obtain ⟨t, ht⟩ : ∃ t, zs[k]? = some t := ⟨_, List.getElem?_eq_getElem (by have := HRl.out; omega)⟩
      obtain ⟨b, off, rfl, hbl, hat, hoks⟩ := HLf.out.at hs
      obtain ⟨b', off', rfl, hbl', hat', hokt⟩ := HR.out.at ht
      have DL : Hid ((ys.map spP).drop i = spP s :: (ys.map spP).drop (i + 1)) := Lib.hid (drop_of (by rw [List.getElem?_map, hs]; rfl))
      have DR : Hid ((zs.map spP).drop k = spP t :: (zs.map spP).drop (k + 1)) := Lib.hid (drop_of (by rw [List.getElem?_map, ht]; rfl))
      have OS := Lib.hid hoks
      have OT := Lib.hid hokt
      have HAs := Lib.hid hat
      have HAt := Lib.hid hat'
      have hbr : b < wr.heap.size := by have := I.bel.size; omega
      have hle := I.le
      obtain ⟨⟨⟨p0, p1, p2, p3, p4⟩, p5⟩, ⟨⟨q0, q1, q2, q3, q4⟩, q5⟩⟩ := hat.keep (I.bel.block b hbl)
      clear hs ht hat hat' hoks hokt I
      go_upto_region 6 with fail
      have KB : MtB w4 (ys.map spP) (zs.map spP) i k u7 cs wr.heap.size s (wr.alloc (Obj.cells (arrS s) 54)) :=
        ⟨J.out.step ((Below.refl wr.heap.size wr).alloc (Nat.le_refl _) _), Blk.new_at rfl, J.out.bel.size, fun e => absurd (own_lt J.out.own e) (by omega), OS.out⟩
      change (Code.region 6 _ _).wp _ _ _ (wr.alloc (Obj.cells (arrS s) 54))
      generalize wr.alloc (Obj.cells (arrS s) 54) = wa at *
      generalize wr.heap.size = ga at *
      have LB := Lib.hid KB
      clear p0 p1 p2 p3 p4 p5 q0 q1 q2 q3 q4 q5 J KB hbr
      have hga := LB.out.hg
      have hbg : b' ≠ ga := by omega
      have hbg2 : b ≠ ga := by omega
      obtain ⟨⟨⟨x0, x1, x2, x3, x4⟩, x5⟩, _⟩ := SAt.of_blk LB.out.b
      obtain ⟨⟨⟨y0, y1, y2, y3, y4⟩, y5⟩, _⟩ := HAt.out.keep (LB.out.i.bel.block b' hbl')
      have X0 : ∀ kk : BW wa, kk.val.cell? ⟨ga, 0, none⟩ = some (.int .i64 s.1.1.1.k) := fun kk => kk.cell x0
      have X1 : ∀ kk : BW wa, kk.val.cell? ⟨ga, 1, none⟩ = some (.int .i64 s.1.1.1.n) := fun kk => kk.cell x1
      have X2 : ∀ kk : BW wa, kk.val.cell? ⟨ga, 2, none⟩ = some (.string s.1.1.1.t) := fun kk => kk.cell x2
      have X3 : ∀ kk : BW wa, kk.val.cell? ⟨ga, 3, none⟩ = some (.slice s.1.1.1.LA s.1.1.1.ln s.1.1.1.lc) := fun kk => kk.cell x3
      have X4 : ∀ kk : BW wa, kk.val.cell? ⟨ga, 4, none⟩ = some (.slice s.1.1.1.DA s.1.1.1.dn s.1.1.1.dc) := fun kk => kk.cell x4
      have X5 : ∀ kk : BW wa, kk.val.cell? ⟨ga, 5, none⟩ = some (.bool s.1.2) := fun kk => kk.cell x5
      have Y0 : ∀ kk : BW wa, kk.val.cell? ⟨b', off' + k * 12, none⟩ = some (.int .i64 t.1.1.1.k) := fun kk => kk.cell y0
      have Y1 : ∀ kk : BW wa, kk.val.cell? ⟨b', off' + k * 12 + 1, none⟩ = some (.int .i64 t.1.1.1.n) := fun kk => kk.cell y1
      have Y2 : ∀ kk : BW wa, kk.val.cell? ⟨b', off' + k * 12 + 2, none⟩ = some (.string t.1.1.1.t) := fun kk => kk.cell y2
      have Y3 : ∀ kk : BW wa, kk.val.cell? ⟨b', off' + k * 12 + 3, none⟩ = some (.slice t.1.1.1.LA t.1.1.1.ln t.1.1.1.lc) := fun kk => kk.cell y3
      have Y4 : ∀ kk : BW wa, kk.val.cell? ⟨b', off' + k * 12 + 4, none⟩ = some (.slice t.1.1.1.DA t.1.1.1.dn t.1.1.1.dc) := fun kk => kk.cell y4
      have Y5 : ∀ kk : BW wa, kk.val.cell? ⟨b', off' + k * 12 + 5, none⟩ = some (.bool t.1.2) := fun kk => kk.cell y5
      have i0 : (0 : Int) ≤ (k : Int) := by omega
      have i1 : (k : Int) < (nr : Int) := by omega
      have K1 : Hid (∀ kk : BW wa, Calls Tryd.prog 39 #[aggC s.1, aggC t.1] kk.val fun e w'' => e = .returned (.int .i64 (cmC (cutP s.1) (cutP t.1))) ∧ ∃ kk : BW wa, w'' = kk.val) := fun kk =>
        Calls.bw (compare_any s.1 t.1 kk.val ((OS.out.1.step LB.out.i.bel).step kk.below) ((OT.out.1.step LB.out.i.bel).step kk.below))
      clear x0 x1 x2 x3 x4 x5 y0 y1 y2 y3 y4 y5
      refine wp_region_bw (by kernel_rfl) (by kernel_rfl) ?_
      repeat (go_big_quiet_step (with_reducible exact K1.out _))
      refine wpQuiet_nil ?_
      rintro _ ⟨kw, rfl⟩
      have L1 := Lib.hid (LB.out.step kw.below)
      clear X0 X1 X2 X3 X4 X5 Y0 Y1 Y2 Y3 Y4 Y5 K1 i0 i1 LB
      generalize kw.val = wb at *
      go_upto_if 39 with fail
      go_cut [] (fun wx => ∃ f : PC, cutP f = maxS cmC (cutP s.1) (cutP t.1) ∧ MtB w4 (ys.map spP) (zs.map spP) i k u7 cs ga (f, s.2) wx)
      case first =>
        by_cases hc : cmC (cutP s.1) (cutP t.1) < 0
        · have HC := Lib.hid hc
          obtain ⟨⟨⟨x0, x1, x2, x3, x4⟩, x5⟩, _⟩ := SAt.of_blk L1.out.b
          obtain ⟨⟨⟨y0, y1, y2, y3, y4⟩, y5⟩, _⟩ := HAt.out.keep (L1.out.i.bel.block b' hbl')
          have z := L1.out.b.frozen
          go_wp2_with fail
          go_meet
          exact ⟨t.1, (maxS_pos HC.out).symm, L1.out.put1 t.1 OT.out.1⟩
        · have HC := Lib.hid hc
          go_wp2_with fail
          go_meet
          exact ⟨s.1, (maxS_neg (by have := HC.out; omega)).symm, L1.out⟩
      case rest =>
        obtain ⟨f, hf, L2'⟩ := hcut
        have HFm := Lib.hid hf
        have L2 := Lib.hid L2'
        clear hf L2' L1
        obtain ⟨_, ⟨⟨y0, y1, y2, y3, y4⟩, y5⟩⟩ := SAt.of_blk L2.out.b
        obtain ⟨_, ⟨⟨x0, x1, x2, x3, x4⟩, x5⟩⟩ := HAt.out.keep (L2.out.i.bel.block b' hbl')
        go_upto_region 8 with fail
        have X0 : ∀ kk : BW wc, kk.val.cell? ⟨b', off' + k * 12 + 6, none⟩ = some (.int .i64 t.2.1.1.k) := fun kk => kk.cell x0
        have X1 : ∀ kk : BW wc, kk.val.cell? ⟨b', off' + k * 12 + 6 + 1, none⟩ = some (.int .i64 t.2.1.1.n) := fun kk => kk.cell x1
        have X2 : ∀ kk : BW wc, kk.val.cell? ⟨b', off' + k * 12 + 6 + 2, none⟩ = some (.string t.2.1.1.t) := fun kk => kk.cell x2
        have X3 : ∀ kk : BW wc, kk.val.cell? ⟨b', off' + k * 12 + 6 + 3, none⟩ = some (.slice t.2.1.1.LA t.2.1.1.ln t.2.1.1.lc) := fun kk => kk.cell x3
        have X4 : ∀ kk : BW wc, kk.val.cell? ⟨b', off' + k * 12 + 6 + 4, none⟩ = some (.slice t.2.1.1.DA t.2.1.1.dn t.2.1.1.dc) := fun kk => kk.cell x4
        have X5 : ∀ kk : BW wc, kk.val.cell? ⟨b', off' + k * 12 + 6 + 5, none⟩ = some (.bool t.2.2) := fun kk => kk.cell x5
        have Y0 : ∀ kk : BW wc, kk.val.cell? ⟨ga, 6, none⟩ = some (.int .i64 s.2.1.1.k) := fun kk => kk.cell y0
        have Y1 : ∀ kk : BW wc, kk.val.cell? ⟨ga, 7, none⟩ = some (.int .i64 s.2.1.1.n) := fun kk => kk.cell y1
        have Y2 : ∀ kk : BW wc, kk.val.cell? ⟨ga, 8, none⟩ = some (.string s.2.1.1.t) := fun kk => kk.cell y2
        have Y3 : ∀ kk : BW wc, kk.val.cell? ⟨ga, 9, none⟩ = some (.slice s.2.1.1.LA s.2.1.1.ln s.2.1.1.lc) := fun kk => kk.cell y3
        have Y4 : ∀ kk : BW wc, kk.val.cell? ⟨ga, 10, none⟩ = some (.slice s.2.1.1.DA s.2.1.1.dn s.2.1.1.dc) := fun kk => kk.cell y4
        have Y5 : ∀ kk : BW wc, kk.val.cell? ⟨ga, 11, none⟩ = some (.bool s.2.2) := fun kk => kk.cell y5
        have i0 : (0 : Int) ≤ (k : Int) := by omega
        have i1 : (k : Int) < (nr : Int) := by omega
        have K1 : Hid (∀ kk : BW wc, Calls Tryd.prog 39 #[aggC t.2, aggC s.2] kk.val fun e w'' => e = .returned (.int .i64 (cmC (cutP t.2) (cutP s.2))) ∧ ∃ kk : BW wc, w'' = kk.val) := fun kk =>
          Calls.bw (compare_any t.2 s.2 kk.val ((OT.out.2.step L2.out.i.bel).step kk.below) ((OS.out.2.step L2.out.i.bel).step kk.below))
        clear x0 x1 x2 x3 x4 x5 y0 y1 y2 y3 y4 y5
        refine wp_region_bw (by kernel_rfl) (by kernel_rfl) ?_
        repeat (go_big_quiet_step (with_reducible exact K1.out _))
        refine wpQuiet_nil ?_
        rintro _ ⟨kw, rfl⟩
        have L3 := Lib.hid (L2.out.step kw.below)
        clear X0 X1 X2 X3 X4 X5 Y0 Y1 Y2 Y3 Y4 Y5 K1 i0 i1 L2
        generalize kw.val = wd at *
        go_upto_if 54 with fail
        go_cut [] (fun wx => ∃ g : PC, cutP g = minS cmC (cutP s.2) (cutP t.2) ∧ MtB w4 (ys.map spP) (zs.map spP) i k u7 cs ga (f, g) wx)
        case first =>
          by_cases hc : cmC (cutP t.2) (cutP s.2) < 0
          · have HC := Lib.hid hc
            obtain ⟨_, ⟨⟨x0, x1, x2, x3, x4⟩, x5⟩⟩ := SAt.of_blk L3.out.b
            obtain ⟨_, ⟨⟨y0, y1, y2, y3, y4⟩, y5⟩⟩ := HAt.out.keep (L3.out.i.bel.block b' hbl')
            have z := L3.out.b.frozen
            go_wp2_with fail
            go_meet
            exact ⟨t.2, (minS_pos HC.out).symm, L3.out.put2 t.2 OT.out.2⟩
          · have HC := Lib.hid hc
            go_wp2_with fail
            go_meet
            exact ⟨s.2, (minS_neg (by have := HC.out; omega)).symm, L3.out⟩
        case rest =>
          obtain ⟨g, hg, L4'⟩ := hcut
          have HGm := Lib.hid hg
          have L4 := Lib.hid L4'
          clear hg L4' L3
          obtain ⟨⟨⟨x0, x1, x2, x3, x4⟩, x5⟩, ⟨⟨y0, y1, y2, y3, y4⟩, y5⟩⟩ := SAt.of_blk L4.out.b
          go_wp2_with fail
          refine (compare_any f g _ (L4.out.oku.1.step L4.out.i.bel) (L4.out.oku.2.step L4.out.i.bel)).mono ?_
          rintro e w6 ⟨rfl, hb6⟩
          have L5 := Lib.hid (L4.out.step hb6)
          clear hb6 x0 x1 x2 x3 x4 x5 y0 y1 y2 y3 y4 y5 L4
          go_upto_if 66 with fail
          go_cut [7] (fun v7 wx => ∃ ds : List PS, wx.ownsRow w4.heap.size 54 12 v7 ds.length (flat recS ds) ∧ ds.map spP = addS cmC (cs.map spP) (cutP f, cutP g) ∧ ds.length ≤ i + k + 1 ∧ (∀ x ∈ ds, okS w4 x) ∧ Below w4.heap.size w4 wx)
          case first =>
            by_cases hc : cmC (cutP f) (cutP g) < 0
            · have HC := Lib.hid hc
              obtain ⟨⟨⟨x0, x1, x2, x3, x4⟩, x5⟩, ⟨⟨y0, y1, y2, y3, y4⟩, y5⟩⟩ := SAt.of_blk L5.out.b
              have hlo6 : w4.heap.size ≤ w6.heap.size := L5.out.i.bel.size
              have LK := Lib.hid (L5.out.i.step ((Below.refl w6.heap.size w6).alloc (Nat.le_refl _) (Obj.cells (arrS (f, g)) 54)))
              go_wp2_with (at_builtin; refine wpList_append_any _ rfl _ _ 46 rfl w4.heap.size 54 j0 (aggS (((VC.zero, Val.zero), false), ((VC.zero, Val.zero), false))) 12 176 Tryd.underlying46 hj0 hy0 hy1 hy2 rfl (by decide) u7 cs.length (flat recS cs) rfl LK.out.own _ _ 1 _ (recS (f, g)) rfl ⟨rfl, fun _ => ⟨_, rfl, Nat.lt_succ_self _, news_at _ _ _⟩⟩ (recS_one _) (by unfold maxLen; omega) (by omega) (le_alloc hlo6 _) ?_)
              intro v' w7 hown hg7 _
              have HOw := Lib.hid hown
              have HBw := Lib.hid (LK.out.bel.grown hg7 LK.out.bel.size (own_ge LK.out.own))
              clear hown hg7
              go_wp2_with fail
              go_meet
              refine ⟨cs ++ [(f, g)], by rw [flat_snoc, List.length_append]; exact HOw.out, ?_, by simp; omega, fun x hx => ?_, HBw.out⟩
              · rw [addS_pos (u := (cutP f, cutP g)) HC.out, List.map_append, List.map_singleton]; rfl
              · rcases List.mem_append.1 hx with hx | hx
                · exact L5.out.i.ok x hx
                · simp at hx; subst hx; exact L5.out.oku
            · have HC := Lib.hid hc
              go_wp2_with fail
              go_meet
              exact ⟨cs, L5.out.i.own, by rw [addS_neg (u := (cutP f, cutP g)) (by show ¬ cmC (cutP f) (cutP g) < 0; have := HC.out; omega)], by omega, L5.out.i.ok, L5.out.i.bel⟩
          case rest =>
            obtain ⟨ds, hown, hds, hdl, hok, hbw⟩ := hcut
            have hme := L5.out.i.me
            rw [DL.out, DR.out] at hme
            have hnl2 : NF cmC VC1 (spP s :: (ys.map spP).drop (i + 1)) := by rw [← DL.out]; exact ⟨fun z hz => NL.out.ne z (List.mem_of_mem_drop hz), NL.out.ord.sublist (List.drop_sublist _ _)⟩
            have hnr2 : NF cmC VC1 (spP t :: (zs.map spP).drop (k + 1)) := by rw [← DR.out]; exact ⟨fun z hz => NR.out.ne z (List.mem_of_mem_drop hz), NR.out.ord.sublist (List.drop_sublist _ _)⟩
            have hds2 : ds.map spP = addS cmC (cs.map spP) (maxS cmC (spP s).1 (spP t).1, minS cmC (spP s).2 (spP t).2) := by rw [hds, HFm.out, HGm.out]; rfl
            have IL : Hid (cmC (cutP s.2) (cutP t.2) < 0 → ∀ wy, Below wc.heap.size wc wy → MtI w4 (ys.map spP) (zs.map spP) (i + 1) k u7 ds wy) := Lib.hid fun hc wy hy =>
              ⟨own_step hown hy, by rw [hds2, DR.out]; exact hme.left lin_cut hnl2 hnr2 hc, by omega, hok, hbw.step' hy⟩
            have IR : Hid (¬ cmC (cutP s.2) (cutP t.2) < 0 → ∀ wy, Below wc.heap.size wc wy → MtI w4 (ys.map spP) (zs.map spP) i (k + 1) u7 ds wy) := Lib.hid fun hc wy hy =>
              ⟨own_step hown hy, by rw [hds2, DL.out]; exact hme.right lin_cut hnl2 hnr2 hc, by omega, hok, hbw.step' hy⟩
            have HBw := Lib.hid hbw
            clear hown hds hds2 hdl hok hbw hme hnl2 hnr2 L5
            obtain ⟨_, ⟨⟨x0, x1, x2, x3, x4⟩, x5⟩⟩ := HAs.out.keep (HBw.out.block b hbl)
            obtain ⟨_, ⟨⟨y0, y1, y2, y3, y4⟩, y5⟩⟩ := HAt.out.keep (HBw.out.block b' hbl')
            go_upto_region 12 with fail
            have X0 : ∀ kk : BW wc, kk.val.cell? ⟨b, off + i * 12 + 6, none⟩ = some (.int .i64 s.2.1.1.k) := fun kk => kk.cell x0
            have X1 : ∀ kk : BW wc, kk.val.cell? ⟨b, off + i * 12 + 6 + 1, none⟩ = some (.int .i64 s.2.1.1.n) := fun kk => kk.cell x1
            have X2 : ∀ kk : BW wc, kk.val.cell? ⟨b, off + i * 12 + 6 + 2, none⟩ = some (.string s.2.1.1.t) := fun kk => kk.cell x2
            have X3 : ∀ kk : BW wc, kk.val.cell? ⟨b, off + i * 12 + 6 + 3, none⟩ = some (.slice s.2.1.1.LA s.2.1.1.ln s.2.1.1.lc) := fun kk => kk.cell x3
            have X4 : ∀ kk : BW wc, kk.val.cell? ⟨b, off + i * 12 + 6 + 4, none⟩ = some (.slice s.2.1.1.DA s.2.1.1.dn s.2.1.1.dc) := fun kk => kk.cell x4
            have X5 : ∀ kk : BW wc, kk.val.cell? ⟨b, off + i * 12 + 6 + 5, none⟩ = some (.bool s.2.2) := fun kk => kk.cell x5
            have Y0 : ∀ kk : BW wc, kk.val.cell? ⟨b', off' + k * 12 + 6, none⟩ = some (.int .i64 t.2.1.1.k) := fun kk => kk.cell y0
            have Y1 : ∀ kk : BW wc, kk.val.cell? ⟨b', off' + k * 12 + 6 + 1, none⟩ = some (.int .i64 t.2.1.1.n) := fun kk => kk.cell y1
            have Y2 : ∀ kk : BW wc, kk.val.cell? ⟨b', off' + k * 12 + 6 + 2, none⟩ = some (.string t.2.1.1.t) := fun kk => kk.cell y2
            have Y3 : ∀ kk : BW wc, kk.val.cell? ⟨b', off' + k * 12 + 6 + 3, none⟩ = some (.slice t.2.1.1.LA t.2.1.1.ln t.2.1.1.lc) := fun kk => kk.cell y3
            have Y4 : ∀ kk : BW wc, kk.val.cell? ⟨b', off' + k * 12 + 6 + 4, none⟩ = some (.slice t.2.1.1.DA t.2.1.1.dn t.2.1.1.dc) := fun kk => kk.cell y4
            have Y5 : ∀ kk : BW wc, kk.val.cell? ⟨b', off' + k * 12 + 6 + 5, none⟩ = some (.bool t.2.2) := fun kk => kk.cell y5
            have i0 : (0 : Int) ≤ (k : Int) := by omega
            have i1 : (k : Int) < (nr : Int) := by omega
            have i2 : (0 : Int) ≤ (i : Int) := by omega
            have i3 : (i : Int) < (nl : Int) := by omega
            have K1 : Hid (∀ kk : BW wc, Calls Tryd.prog 39 #[aggC s.2, aggC t.2] kk.val fun e w'' => e = .returned (.int .i64 (cmC (cutP s.2) (cutP t.2))) ∧ ∃ kk : BW wc, w'' = kk.val) := fun kk =>
              Calls.bw (compare_any s.2 t.2 kk.val ((OS.out.2.step HBw.out).step kk.below) ((OT.out.2.step HBw.out).step kk.below))
            clear x0 x1 x2 x3 x4 x5 y0 y1 y2 y3 y4 y5
            refine wp_region_bw (by kernel_rfl) (by kernel_rfl) ?_
            repeat (go_big_quiet_step (with_reducible exact K1.out _))
            refine wpQuiet_nil ?_
            rintro _ ⟨kw, rfl⟩
            have LK8 := Lib.hid kw.below
            clear X0 X1 X2 X3 X4 X5 Y0 Y1 Y2 Y3 Y4 Y5 K1 i0 i1 i2 i3
            generalize kw.val = w8 at *
            by_cases hc : cmC (cutP s.2) (cutP t.2) < 0
            · have HI := Lib.hid (IL.out hc _ LK8.out)
              go_wp2_with fail
              go_roundw
              case rel => exact ⟨i + 1, k, ds, by omega, by omega, by go_num, rfl, HI.out⟩
              case measure => simp [intOf]; omega
            · have HI := Lib.hid (IR.out (by omega) _ LK8.out)
              go_wp2_with fail
              go_roundw
              case rel => exact ⟨i, k + 1, ds, by omega, by omega, rfl, by go_num, HI.out⟩
              case measure => simp [intOf]; omega
    · have hend : (ys.map spP).drop i = [] ∨ (zs.map spP).drop k = [] := by
        have h1 := HLl.out
        have h2 := HRl.out
        by_cases hx : i < nl
        · exact .inr (List.drop_of_length_le (by rw [List.length_map]; omega))
        · exact .inl (List.drop_of_length_le (by rw [List.length_map]; omega))
      have HD := Lib.hid (I.me.done hend)
      obtain ⟨A8, c8, hv, hs8⟩ := SS.of_own I.own rfl (by have := I.le; unfold reach; omega) (fun x hx => (I.ok x hx).step I.bel)
      have hle := I.le
      subst hv
      obtain ⟨q, hq⟩ : ∃ q, q = cs.length := ⟨_, rfl⟩
      have HS8 := Lib.hid hs8
      rw [← hq] at HS8 hle ⊢
      have HQ := Lib.hid hq
      have HBr := Lib.hid (HB4.out.step' I.bel)
      have ways : (¬ i < nl) ∨ (i < nl ∧ ¬ k < nr) := by omega
      clear I J hgo hend hs8 hq
      rcases ways with hw1 | ⟨hw1, hw2⟩
      all_goals
        go_wp2_with fail
        refine (intervals_any cs A8 q c8 _ HS8.out (by omega)).mono ?_
        rintro e w9 ⟨A9, m9, c9, ts, rfl, hts, hsi, hb9⟩
        have HTs := Lib.hid hts
        have HS9 := Lib.hid hsi
        have HB9 := Lib.hid (HBr.out.step' hb9)
        have HT9 := Lib.hid hsi.sr.ln
        clear hts hsi hb9
        go_wp2_with fail
        go_ret
        refine ⟨A9, m9, c9, ts, cs.map spP, rfl, by rw [HTs.out, List.map_map]; rfl, ⟨HD.out.1, fun a => ?_⟩, ?_, HS9.out, HB9.out⟩
        · have hy : inS cmC a (ys.map spP) ↔ inS cmC a (spansL (is.map ivP)) := by rw [← HX.out]; exact HY.out.1.2 a
          have hz : inS cmC a (zs.map spP) ↔ inS cmC a (spansL (js.map ivP)) := by rw [← HX'.out]; exact HZ.out.1.2 a
          exact (HD.out.2 a).trans (and_congr hy hz)
        · have h1 := congrArg List.length HTs.out
          simp only [List.length_map] at h1
          have := HT9.out; have := HQ.out
          omega

end Go.Proofs.YtdmabhbhlnpkgaaDoor

namespace Go.Proofs.YtdmabhbhlnpkgaaDoor
open Go.RowKit

theorem rsame_eq (x : Val) (c d : VC) (w : World) (h : RW w c x) (h' : RW w d x) : Calls Tryd.prog 32 #[c.val, d.val] w fun e w' => e = .returned (.bool true) ∧ Below w.heap.size w w' := by
  refine (rsame_any x x c d w h h').mono ?_
  rintro e w' ⟨rfl, hb⟩
  rw [sameV_true rfl]
  exact ⟨rfl, hb⟩

set_option maxRecDepth 100000 in
set_option maxHeartbeats 2000000 in
theorem same24_eq (ys zs : List PI) (A B : Option Addr) (n m c d : Nat) (w : World) (h : SI w A n c ys) (h' : SI w B m d zs) (heq : ys.map ivP = zs.map ivP) :
    Calls Tryd.prog 12 #[.slice A n c, .slice B m d] w fun e w' => e = .returned (.bool true) ∧ Below w.heap.size w w' := by
  have hl : n = m := by have h1 := h.sr.ln; have h2 := h'.sr.ln; have h3 := congrArg List.length heq; simp only [List.length_map] at h3; omega
  subst hl
  have H := Lib.hid h
  have H' := Lib.hid h'
  have HE := Lib.hid heq
  have HL := Lib.hid h.sr.ln
  have HL' := Lib.hid h'.sr.ln
  have hz := h.sz
  unfold reach at hz
  clear h h' heq
  have hnn : ((n : Int) != (n : Int)) = false := by simp
  go_enter Tryd.func12, Tryd.ntmps12
  go_wp2_with fail
  go_loopw [5] (fun v5 wr => ∃ i : Nat, i ≤ n ∧ v5 = .int .i64 i ∧ Below w.heap.size w wr) (fun v5 _ => n - (intOf v5).toNat)
  case atStart => exact ⟨0, Nat.zero_le _, rfl, Below.refl _ _⟩
  case round =>
    obtain ⟨i, hi, rfl, I⟩ := hrel
    have J := Lib.hid I
    by_cases hlt : i < n
    · obtain ⟨p, hp⟩ : ∃ p, ys[i]? = some p := ⟨_, List.getElem?_eq_getElem (by have := HL.out; omega)⟩
      obtain ⟨q, hq⟩ : ∃ q, zs[i]? = some q := ⟨_, List.getElem?_eq_getElem (by have := HL'.out; omega)⟩
      have hpq : ivP p = ivP q := by
        have h1 : (ys.map ivP)[i]? = some (ivP p) := by rw [List.getElem?_map, hp]; rfl
        have h2 : (zs.map ivP)[i]? = some (ivP q) := by rw [List.getElem?_map, hq]; rfl
        rw [HE.out, h2] at h1
        exact (Option.some.inj h1).symm
      have e1 : q.1.1.2 = p.1.1.2 := (congrArg Iv.lo hpq).symm
      have e2 : q.1.2.2 = p.1.2.2 := (congrArg Iv.hi hpq).symm
      have e3 : q.2.1 = p.2.1 := (congrArg Iv.li hpq).symm
      have e4 : q.2.2 = p.2.2 := (congrArg Iv.hin hpq).symm
      obtain ⟨b, off, rfl, hbl, hat, hok⟩ := H.out.at hp
      obtain ⟨b', off', rfl, hbl', hat', hok'⟩ := H'.out.at hq
      obtain ⟨⟨p0, p1, p2, p3, p4⟩, ⟨q0, q1, q2, q3, q4⟩, r0, r1⟩ := hat.keep (I.block b hbl)
      obtain ⟨⟨s0, s1, s2, s3, s4⟩, ⟨t0, t1, t2, t3, t4⟩, x0, x1⟩ := hat'.keep (I.block b' hbl')
      rw [e3] at x0
      rw [e4] at x1
      have P0 : ∀ k : BW wr, k.val.cell? ⟨b, off + i * 12, none⟩ = some (.int .i64 p.1.1.1.k) := fun k => k.cell p0
      have P1 : ∀ k : BW wr, k.val.cell? ⟨b, off + i * 12 + 1, none⟩ = some (.int .i64 p.1.1.1.n) := fun k => k.cell p1
      have P2 : ∀ k : BW wr, k.val.cell? ⟨b, off + i * 12 + 2, none⟩ = some (.string p.1.1.1.t) := fun k => k.cell p2
      have P3 : ∀ k : BW wr, k.val.cell? ⟨b, off + i * 12 + 3, none⟩ = some (.slice p.1.1.1.LA p.1.1.1.ln p.1.1.1.lc) := fun k => k.cell p3
      have P4 : ∀ k : BW wr, k.val.cell? ⟨b, off + i * 12 + 4, none⟩ = some (.slice p.1.1.1.DA p.1.1.1.dn p.1.1.1.dc) := fun k => k.cell p4
      have Q0 : ∀ k : BW wr, k.val.cell? ⟨b, off + i * 12 + 5, none⟩ = some (.int .i64 p.1.2.1.k) := fun k => k.cell q0
      have Q1 : ∀ k : BW wr, k.val.cell? ⟨b, off + i * 12 + 5 + 1, none⟩ = some (.int .i64 p.1.2.1.n) := fun k => k.cell q1
      have Q2 : ∀ k : BW wr, k.val.cell? ⟨b, off + i * 12 + 5 + 2, none⟩ = some (.string p.1.2.1.t) := fun k => k.cell q2
      have Q3 : ∀ k : BW wr, k.val.cell? ⟨b, off + i * 12 + 5 + 3, none⟩ = some (.slice p.1.2.1.LA p.1.2.1.ln p.1.2.1.lc) := fun k => k.cell q3
      have Q4 : ∀ k : BW wr, k.val.cell? ⟨b, off + i * 12 + 5 + 4, none⟩ = some (.slice p.1.2.1.DA p.1.2.1.dn p.1.2.1.dc) := fun k => k.cell q4
      have S0 : ∀ k : BW wr, k.val.cell? ⟨b', off' + i * 12, none⟩ = some (.int .i64 q.1.1.1.k) := fun k => k.cell s0
      have S1 : ∀ k : BW wr, k.val.cell? ⟨b', off' + i * 12 + 1, none⟩ = some (.int .i64 q.1.1.1.n) := fun k => k.cell s1
      have S2 : ∀ k : BW wr, k.val.cell? ⟨b', off' + i * 12 + 2, none⟩ = some (.string q.1.1.1.t) := fun k => k.cell s2
      have S3 : ∀ k : BW wr, k.val.cell? ⟨b', off' + i * 12 + 3, none⟩ = some (.slice q.1.1.1.LA q.1.1.1.ln q.1.1.1.lc) := fun k => k.cell s3
      have S4 : ∀ k : BW wr, k.val.cell? ⟨b', off' + i * 12 + 4, none⟩ = some (.slice q.1.1.1.DA q.1.1.1.dn q.1.1.1.dc) := fun k => k.cell s4
      have T0 : ∀ k : BW wr, k.val.cell? ⟨b', off' + i * 12 + 5, none⟩ = some (.int .i64 q.1.2.1.k) := fun k => k.cell t0
      have T1 : ∀ k : BW wr, k.val.cell? ⟨b', off' + i * 12 + 5 + 1, none⟩ = some (.int .i64 q.1.2.1.n) := fun k => k.cell t1
      have T2 : ∀ k : BW wr, k.val.cell? ⟨b', off' + i * 12 + 5 + 2, none⟩ = some (.string q.1.2.1.t) := fun k => k.cell t2
      have T3 : ∀ k : BW wr, k.val.cell? ⟨b', off' + i * 12 + 5 + 3, none⟩ = some (.slice q.1.2.1.LA q.1.2.1.ln q.1.2.1.lc) := fun k => k.cell t3
      have T4 : ∀ k : BW wr, k.val.cell? ⟨b', off' + i * 12 + 5 + 4, none⟩ = some (.slice q.1.2.1.DA q.1.2.1.dn q.1.2.1.dc) := fun k => k.cell t4
      have R0 : ∀ k : BW wr, k.val.cell? ⟨b, off + i * 12 + 10, none⟩ = some (.bool p.2.1) := fun k => k.cell r0
      have R1 : ∀ k : BW wr, k.val.cell? ⟨b, off + i * 12 + 11, none⟩ = some (.bool p.2.2) := fun k => k.cell r1
      have X0 : ∀ k : BW wr, k.val.cell? ⟨b', off' + i * 12 + 10, none⟩ = some (.bool p.2.1) := fun k => k.cell x0
      have X1 : ∀ k : BW wr, k.val.cell? ⟨b', off' + i * 12 + 11, none⟩ = some (.bool p.2.2) := fun k => k.cell x1
      have i0 : (0 : Int) ≤ (i : Int) := by omega
      have i1 : (i : Int) < (n : Int) := by omega
      have b1 : (p.2.1 != p.2.1) = false := by simp
      have b2 : (p.2.2 != p.2.2) = false := by simp
      have K1 : Hid (∀ k : BW wr, Calls Tryd.prog 32 #[p.1.1.1.val, q.1.1.1.val] k.val fun e w'' => e = .returned (.bool true) ∧ ∃ k : BW wr, w'' = k.val) := fun k =>
        Calls.bw (rsame_eq p.1.1.2 p.1.1.1 q.1.1.1 k.val ((hok.step I).1.step k.below) (by rw [← e1]; exact (hok'.step I).1.step k.below))
      have K2 : Hid (∀ k : BW wr, Calls Tryd.prog 32 #[p.1.2.1.val, q.1.2.1.val] k.val fun e w'' => e = .returned (.bool true) ∧ ∃ k : BW wr, w'' = k.val) := fun k =>
        Calls.bw (rsame_eq p.1.2.2 p.1.2.1 q.1.2.1 k.val ((hok.step I).2.step k.below) (by rw [← e2]; exact (hok'.step I).2.step k.below))
      clear p0 p1 p2 p3 p4 q0 q1 q2 q3 q4 r0 r1 s0 s1 s2 s3 s4 t0 t1 t2 t3 t4 x0 x1 e1 e2 e3 e4 hp hq hpq hat hat' hok hok' I hbl hbl'
      go_upto_region 6 with fail
      refine wp_region_bw (by kernel_rfl) (by kernel_rfl) ?_
      repeat (go_big_quiet_step (first | (with_reducible exact K1.out _) | (with_reducible exact K2.out _)))
      refine wpQuiet_nil ?_
      rintro _ ⟨kw, rfl⟩
      have J2 := Lib.hid (J.out.step' kw.below)
      clear P0 P1 P2 P3 P4 Q0 Q1 Q2 Q3 Q4 R0 R1 S0 S1 S2 S3 S4 T0 T1 T2 T3 T4 X0 X1 K1 K2 i0 i1 b1 b2
      generalize kw.val = w2 at *
      go_wp2_with fail
      go_roundw
      case rel => exact ⟨i + 1, by omega, by go_num, J2.out⟩
      case measure => simp [intOf]; omega
    · clear I
      go_wp2_with fail
      go_ret
      exact ⟨rfl, J.out⟩

set_option maxHeartbeats 400000 in
theorem rall_any (w : World) : Calls Tryd.prog 31 #[] w (NormOk (fun a => inS cmC a (spansL [allIv])) 1 w) := by
  go_enter Tryd.func31, Tryd.ntmps31
  go_wp2_with fail
  go_ret
  exact ⟨_, 1, 1, [pAll], _, rfl, rfl, all_nf, Nat.le_refl _, si_one (Blk.new_at rfl) ⟨rw_min _, rw_max _⟩, (Below.refl _ _).alloc (Nat.le_refl _) _⟩
/-- two normal forms of one set -/
theorem norm_same {S T : Cut → Prop} {ys zs : List PI} {n m : List (Cut × Cut)} (h1 : ys.map ivP = n.map ivOf) (h2 : zs.map ivP = m.map ivOf) (k1 : IsNF S n) (k2 : IsNF T m) (e : ∀ a, VC1 a → (S a ↔ T a)) : ys.map ivP = zs.map ivP := by
  rw [h1, h2, k1.unique k2 e]

end Go.Proofs.YtdmabhbhlnpkgaaDoor

namespace Go.Proofs.YtdmabhbhlnpkgaaDoor
open Go.RowKit

/-- some number is handed back -/
def CntOk (w : World) (e : Ending) (w' : World) : Prop := ∃ r : Int, e = .returned (.int .i64 r) ∧ -1 ≤ r ∧ r ≤ 1000000 ∧ Below w.heap.size w w'
structure CnI (w : World) (c : VC) (wr : World) : Prop where
  b0 : Blk wr w.heap.size 30 c.arr
  bel : Below w.heap.size w wr
theorem CnI.step {w wr w' : World} {c : VC} (h : CnI w c wr) (hb : Below wr.heap.size wr w') : CnI w c w' := ⟨h.b0.step hb, h.bel.step' hb⟩

set_option maxRecDepth 100000 in
set_option maxHeartbeats 2000000 in
theorem count_any (x : Val) : ∀ (c : VC) (w : World) (lv left : Int), RW w c x → 0 ≤ lv → lv ≤ 41 → 0 ≤ left → left ≤ 1000000 →
    Calls Tryd.prog 40 #[c.val, .int .i64 lv, .int .i64 left] w (CntOk w) := by
  induction x using Val.ind with
  | h k n t l d ihl ihd =>
  intro c w lv left h hl0 hl1 hf0 hf1
  have IHL := Lib.hid ihl
  have IHD := Lib.hid ihd
  obtain ⟨ps0, hps0, hsl⟩ := h.sl
  obtain ⟨fs0, hfs0, hsd⟩ := h.sd
  have htz : c.t.size ≤ 140737488355328 := by have := h.open.t; rw [this]; exact h.open.tsz
  obtain ⟨ck, cn, ct, cLA, cln, clc, cDA, cdn, cdc⟩ := c
  simp only [Val.l, Val.d] at hps0 hfs0 hsl hsd
  have hlz : cln * 80 ≤ 140737488355328 := hsl.sz
  have hdz : cdn * 96 ≤ 140737488355328 := hsd.sz
  have HLn := Lib.hid hsl.sr.ln
  have HDn := Lib.hid hsd.sr.ln
  have HSL := Lib.hid hsl
  have HSD := Lib.hid hsd
  have HP := Lib.hid hps0
  have HF := Lib.hid hfs0
  have I0 : Hid (CnI w ⟨ck, cn, ct, cLA, cln, clc, cDA, cdn, cdc⟩ (w.alloc (Obj.cells #[.int .i64 ck, .int .i64 cn, .string ct, .slice cLA cln clc, .slice cDA cdn cdc] 30))) :=
    Lib.hid ⟨Blk.new_at rfl, (Below.refl _ _).alloc (Nat.le_refl _) _⟩
  simp only at htz
  clear h ihl ihd hsl hsd hps0 hfs0
  by_cases hlv : 40 < lv
  · go_enter Tryd.func40, Tryd.ntmps40
    go_wp2_with fail
    go_ret
    exact ⟨-1, rfl, by omega, by omega, I0.out.bel⟩
  by_cases htx : 5000 < ct.size
  · go_enter Tryd.func40, Tryd.ntmps40
    go_wp2_with fail
    go_ret
    exact ⟨-1, rfl, by omega, by omega, I0.out.bel⟩
  go_enter Tryd.func40, Tryd.ntmps40
  go_wp2_with fail
  go_loopw [2, 7] (fun v2 v7 wr => ∃ (i : Nat) (lf : Int), i ≤ cln ∧ v7 = .int .i64 i ∧ v2 = .int .i64 lf ∧ -1 ≤ lf ∧ lf ≤ 1000000 ∧ CnI w ⟨ck, cn, ct, cLA, cln, clc, cDA, cdn, cdc⟩ wr) (fun _ v7 _ => cln - (intOf v7).toNat)
  case atStart => exact ⟨0, left - 1, Nat.zero_le _, rfl, rfl, by omega, by omega, I0.out⟩
  case round =>
    obtain ⟨i, lf, hi, rfl, rfl, hf2, hf3, I⟩ := hrel
    have J := Lib.hid I
    have q3 := I.b0.cell 3
    simp at q3
    by_cases hgo : i < cln ∧ 0 ≤ lf
    · obtain ⟨hlt, hlf⟩ := hgo
      obtain ⟨p, hp⟩ : ∃ p, ps0[i]? = some p := ⟨_, List.getElem?_eq_getElem (by have := HLn.out; omega)⟩
      obtain ⟨b, off, rfl, _, hu, hr⟩ := HSL.out.vat hp
      have hy : p.2 ∈ l := by rw [← HP.out]; exact List.mem_map_of_mem (List.mem_of_getElem? hp)
      have HY := Lib.hid hy
      have HR := Lib.hid (hr.step I.bel)
      obtain ⟨y0, y1, y2, y3, y4⟩ := hu.keep (I.bel.block b hu.lt)
      clear hp hu hr hy I
      go_wp2_with fail
      refine (IHL.out p.2 HY.out p.1 _ (lv + 1) lf HR.out (by omega) (by omega) hlf hf3).mono ?_
      rintro e w1 ⟨r, rfl, hr1, hr2, hb1⟩
      have J1 := Lib.hid (J.out.step hb1)
      clear hb1 y0 y1 y2 y3 y4 q3 HR
      go_wp2_with fail
      go_roundw
      case rel => exact ⟨i + 1, r, by omega, by go_num, rfl, hr1, hr2, J1.out⟩
      case measure => simp [intOf]; omega
    · have hx : (i < cln → lf < 0) := fun h1 => by omega
      have ways : (¬ i < cln) ∨ (i < cln ∧ lf < 0) := by omega
      clear I hgo hx
      obtain ⟨wo, hwo⟩ : ∃ wo : World, wo = wr := ⟨_, rfl⟩
      have hq := q3
      rcases ways with hw1 | ⟨hw1, hw2⟩
      all_goals
        go_wp2_with fail
        rw [← hwo] at J hq ⊢
        clear q3 hwo
        go_loopw [2, 8] (fun v2 v8 wr => ∃ (j : Nat) (lg : Int), j ≤ cdn ∧ v8 = .int .i64 j ∧ v2 = .int .i64 lg ∧ -1 ≤ lg ∧ lg ≤ 1000000 ∧ CnI w ⟨ck, cn, ct, cLA, cln, clc, cDA, cdn, cdc⟩ wr) (fun _ v8 _ => cdn - (intOf v8).toNat)
        case atStart => exact ⟨0, lf, Nat.zero_le _, rfl, rfl, hf2, hf3, J.out⟩
        case round =>
          clear J hq
          obtain ⟨j, lg, hj, rfl, rfl, hg2, hg3, I⟩ := hrel
          have J := Lib.hid I
          have q4 := I.b0.cell 4
          simp at q4
          by_cases hgo : j < cdn ∧ 0 ≤ lg
          · obtain ⟨hlt, hlf⟩ := hgo
            obtain ⟨p, hp⟩ : ∃ p, fs0[j]? = some p := ⟨_, List.getElem?_eq_getElem (by have := HDn.out; omega)⟩
            have hns : p.2.s.size ≤ 140737488355328 := HSD.out.ns p (List.mem_of_getElem? hp)
            obtain ⟨b, off, rfl, _, hs0, hu, hr⟩ := HSD.out.vat hp
            have hy : p.2 ∈ d := by rw [← HF.out]; exact List.mem_map_of_mem (List.mem_of_getElem? hp)
            have HY := Lib.hid hy
            have HR := Lib.hid (hr.step I.bel)
            have y5 := (I.bel.cell (p := ⟨b, off + j * 6, none⟩) hu.lt).trans hs0
            obtain ⟨y0, y1, y2, y3, y4⟩ := hu.keep (I.bel.block b hu.lt)
            clear hp hu hr hy I hs0
            by_cases hnm : 200 < p.2.s.size
            · go_wp2_with fail
              go_ret
              exact ⟨-1, rfl, by omega, by omega, J.out.bel⟩
            · go_wp2_with fail
              refine (IHD.out p.2 HY.out p.1 _ (lv + 1) lg HR.out (by omega) (by omega) hlf hg3).mono ?_
              rintro e w1 ⟨r, rfl, hr1, hr2, hb1⟩
              have J1 := Lib.hid (J.out.step hb1)
              clear hb1 y0 y1 y2 y3 y4 y5 q4 HR
              go_wp2_with fail
              go_roundw
              case rel => exact ⟨j + 1, r, by omega, by go_num, rfl, hr1, hr2, J1.out⟩
              case measure => simp [intOf]; omega
          · have ways : (¬ j < cdn) ∨ (j < cdn ∧ lg < 0) := by omega
            clear I hgo
            rcases ways with hw3 | ⟨hw3, hw4⟩
            all_goals
              go_wp2_with fail
              go_ret
              exact ⟨lg, rfl, hg2, hg3, J.out.bel⟩

/-- some bool is handed back -/
def FewOk (w : World) (e : Ending) (w' : World) : Prop := ∃ r : Bool, e = .returned (.bool r) ∧ Below w.heap.size w w'
set_option maxHeartbeats 400000 in
theorem fewV_any (x : Val) (c : VC) (w : World) (left : Int) (h : RW w c x) (h0 : 0 ≤ left) (h1 : left ≤ 1000000) : Calls Tryd.prog 17 #[c.val, .int .i64 left] w (FewOk w) := by
  have H := Lib.hid h
  clear h
  go_enter Tryd.func17, Tryd.ntmps17
  go_wp2_with fail
  refine (count_any x c _ 1 left (H.out.alloc _) (by omega) (by omega) h0 h1).mono ?_
  rintro e w1 ⟨r, rfl, hr1, hr2, hb1⟩
  have B1 := Lib.hid (((Below.refl w.heap.size w).alloc (Nat.le_refl _) (Obj.cells c.arr 30)).step' hb1)
  clear hb1
  by_cases hr : 0 ≤ r
  all_goals
    go_wp2_with fail
    go_ret
    exact ⟨_, rfl, B1.out⟩

/-- few: at most 40 intervals if it returns true -/
def FewsOk (n : Nat) (w : World) (e : Ending) (w' : World) : Prop := ∃ r : Bool, e = .returned (.bool r) ∧ (r = true → n ≤ 40) ∧ Below w.heap.size w w'
set_option maxRecDepth 100000 in
set_option maxHeartbeats 1000000 in
theorem few_any (is : List PI) (A : Option Addr) (n c : Nat) (w : World) (h : SI w A n c is) : Calls Tryd.prog 10 #[.slice A n c] w (FewsOk n w) := by
  have H := Lib.hid h
  have HL := Lib.hid h.sr.ln
  have hz := h.sz
  unfold reach at hz
  clear h
  go_enter Tryd.func10, Tryd.ntmps10
  go_wp2_with fail
  go_loopw [3] (fun v3 wr => ∃ i : Nat, i ≤ n ∧ v3 = .int .i64 i ∧ Below w.heap.size w wr) (fun v3 _ => n - (intOf v3).toNat)
  case atStart => exact ⟨0, Nat.zero_le _, rfl, Below.refl _ _⟩
  case round =>
    obtain ⟨i, hi, rfl, I⟩ := hrel
    have J := Lib.hid I
    by_cases hlt : i < n
    · obtain ⟨p, hp⟩ : ∃ p, is[i]? = some p := ⟨_, List.getElem?_eq_getElem (by have := HL.out; omega)⟩
      obtain ⟨b, off, rfl, hbl, hat, hok⟩ := H.out.at hp
      have HA := Lib.hid hat
      have HOk := Lib.hid hok
      obtain ⟨⟨p0, p1, p2, p3, p4⟩, ⟨q0, q1, q2, q3, q4⟩, r0, r1⟩ := hat.keep (I.block b hbl)
      clear hp hat hok I
      go_wp2_with fail
      refine (fewV_any p.1.1.2 p.1.1.1 _ 100 (HOk.out.step J.out).1 (by omega) (by omega)).mono ?_
      rintro e w1 ⟨r, rfl, hb1⟩
      have J1 := Lib.hid (J.out.step' hb1)
      clear hb1 p0 p1 p2 p3 p4 q0 q1 q2 q3 q4 r0 r1 J
      obtain ⟨⟨p0, p1, p2, p3, p4⟩, ⟨q0, q1, q2, q3, q4⟩, r0, r1⟩ := HA.out.keep (J1.out.block b hbl)
      cases r
      · go_wp2_with fail
        go_ret
        exact ⟨false, rfl, by simp, J1.out⟩
      · go_wp2_with fail
        refine (fewV_any p.1.2.2 p.1.2.1 _ 100 (HOk.out.step J1.out).2 (by omega) (by omega)).mono ?_
        rintro e w2 ⟨r, rfl, hb2⟩
        have J2 := Lib.hid (J1.out.step' hb2)
        clear hb2 p0 p1 p2 p3 p4 q0 q1 q2 q3 q4 r0 r1 J1
        cases r
        · go_wp2_with fail
          go_ret
          exact ⟨false, rfl, by simp, J2.out⟩
        · go_wp2_with fail
          go_roundw
          case rel => exact ⟨i + 1, by omega, by go_num, J2.out⟩
          case measure => simp [intOf]; omega
    · clear I
      by_cases h40 : n ≤ 40
      · have hd : decide ((n : Int) ≤ 40) = true := decide_eq_true (by omega)
        go_wp2_with fail
        go_ret
        exact ⟨true, rfl, fun _ => h40, J.out⟩
      · have hd : decide ((n : Int) ≤ 40) = false := decide_eq_false (by omega)
        go_wp2_with fail
        go_ret
        exact ⟨false, rfl, by simp, J.out⟩

end Go.Proofs.YtdmabhbhlnpkgaaDoor

namespace Go.Proofs.YtdmabhbhlnpkgaaDoor
open Go.RowKit

def vI (n : Int) : Val := .mk 3 n ByteArray.empty [] []
abbrev cI (n : Int) : VC := ⟨3, n, ByteArray.empty, none, 0, 0, none, 0, 0⟩
theorem rw_int (n : Int) (w : World) : RW w (cI n) (vI n) := RVs.shut ⟨rfl, rfl, rfl, by show ByteArray.empty.size ≤ reach; decide, rfl, Nat.le_refl _, by show 0 * 80 ≤ reach; decide, fun h => absurd h (by show ¬ 0 < 0; omega), rfl, Nat.le_refl _, by show 0 * 96 ≤ reach; decide, fun h => absurd h (by show ¬ 0 < 0; omega)⟩
theorem valid_int (n : Int) : validV (vI n) = true := by
  refine validV_of ?_ ?_ ?_
  · rw [size_parts]; unfold Val.parts; rw [if_neg (by show ¬ (3 : Int) = 6; omega), if_neg (by show ¬ (3 : Int) = 5; omega)]; simp [sizeL]
  · rw [height_parts]; unfold Val.parts; rw [if_neg (by show ¬ (3 : Int) = 6; omega), if_neg (by show ¬ (3 : Int) = 5; omega)]; simp [heightL]
  · exact (SoundV_iff _ _).2 ⟨by simp [HeadP, vI, Val.k, Val.n, Val.t, Val.l, Val.d], by simp [vI, Val.l], by simp [vI, Val.d], by simp [vI, Val.d, NamesP]⟩
def cuI (n : Int) (b : Bool) : Cut := (vI n, b)
theorem cm_int (a b : Int) (x y : Bool) : cmC (cuI a x) (cuI b y) = lex (cmpI a b) (cmB x y) := by
  unfold cmC cuI
  rw [cmpV_int (x := vI a) (y := vI b) rfl (.inl rfl)]
  rfl
theorem V_int (n : Int) (b : Bool) : VC1 (cuI n b) := valid_int n
abbrev ivI (a b : Int) (li hi : Bool) : Iv := ⟨vI a, vI b, li, hi⟩
theorem ne_int {a b : Int} {li hi : Bool} (h : lex (cmpI a b) (cmB (!li) hi) < 0) : (ivI a b li hi).ne = true := by
  have h2 : cmC (ivI a b li hi).sp.1 (ivI a b li hi).sp.2 < 0 := by
    show cmC (cuI a (!li)) (cuI b hi) < 0
    rw [cm_int]; exact h
  unfold Iv.ne
  rw [decide_eq_true h2]
  show (validV (vI a) && validV (vI b) && true) = true
  rw [valid_int, valid_int]; rfl
theorem spansL_all {l : List Iv} (h : ∀ x ∈ l, x.ne = true) : spansL l = l.map Iv.sp := by unfold spansL; rw [List.filter_eq_self.2 h]

theorem aw_normal : IsNF (fun a => inS cmC a (spansL [ivI 2 3 true true, ivI 1 2 true false])) [(cuI 1 false, cuI 3 true)] := by
  have e : spansL [ivI 2 3 true true, ivI 1 2 true false] = [(cuI 2 false, cuI 3 true), (cuI 1 false, cuI 2 false)] := by
    rw [spansL_all (by intro x hx; simp only [List.mem_cons, List.not_mem_nil, or_false] at hx; rcases hx with rfl | rfl; exact ne_int (by decide); exact ne_int (by decide))]
    rfl
  have c12 : cmC (cuI 1 false) (cuI 2 false) < 0 := by rw [cm_int]; decide
  have c23 : cmC (cuI 2 false) (cuI 3 true) < 0 := by rw [cm_int]; decide
  have c13 : cmC (cuI 1 false) (cuI 3 true) < 0 := by rw [cm_int]; decide
  refine ⟨⟨fun s hs => by simp at hs; subst hs; exact ⟨c13, V_int _ _, V_int _ _⟩, by simp⟩, fun a => ?_⟩
  rw [e]
  dsimp only
  rw [inS_one, inS_cons, inS_one]
  dsimp only
  have H := lin_cut
  have t1 := H.tr (cuI 1 false) (cuI 2 false) a
  have t2 := H.tr a (cuI 2 false) (cuI 3 true)
  have t3 := H.anti a (cuI 2 false)
  unfold TR at t1 t2
  constructor
  · rintro ⟨h1, h2⟩
    by_cases h3 : cmC a (cuI 2 false) < 0
    · exact .inr ⟨h1, h3⟩
    · exact .inl ⟨by omega, h2⟩
  · rintro (⟨h1, h2⟩ | ⟨h1, h2⟩)
    · exact ⟨by have := t1 (by omega) h1; omega, h2⟩
    · exact ⟨h1, by have := t2 (by omega) (by omega); omega⟩
theorem aw_meet : IsNF (fun a => inS cmC a (spansL [ivI 1 5 true true]) ∧ inS cmC a (spansL [ivI 3 9 false true])) [(cuI 3 true, cuI 5 true)] := by
  have e1 : spansL [ivI 1 5 true true] = [(cuI 1 false, cuI 5 true)] := by
    rw [spansL_all (by intro x hx; simp at hx; subst hx; exact ne_int (by decide))]; rfl
  have e2 : spansL [ivI 3 9 false true] = [(cuI 3 true, cuI 9 true)] := by
    rw [spansL_all (by intro x hx; simp at hx; subst hx; exact ne_int (by decide))]; rfl
  have c35 : cmC (cuI 3 true) (cuI 5 true) < 0 := by rw [cm_int]; decide
  have c13 : cmC (cuI 1 false) (cuI 3 true) < 0 := by rw [cm_int]; decide
  have c59 : cmC (cuI 5 true) (cuI 9 true) < 0 := by rw [cm_int]; decide
  refine ⟨⟨fun s hs => by simp at hs; subst hs; exact ⟨c35, V_int _ _, V_int _ _⟩, by simp⟩, fun a => ?_⟩
  rw [e1, e2]
  dsimp only
  rw [inS_one, inS_one, inS_one]
  dsimp only
  have t1 := lin_cut.tr (cuI 1 false) (cuI 3 true) a
  have t2 := lin_cut.tr a (cuI 5 true) (cuI 9 true)
  unfold TR at t1 t2
  constructor
  · rintro ⟨h1, h2⟩
    exact ⟨⟨by have := t1 (by omega) h1; omega, h2⟩, h1, by have := t2 (by omega) (by omega); omega⟩
  · rintro ⟨⟨h1, h2⟩, h3, h4⟩
    exact ⟨h3, h2⟩
theorem aw_points : IsNF (fun a => inS cmC a (spansL [ptIv (vI 2), ptIv (vI 1), ptIv (vI 2)])) [(cuI 1 false, cuI 1 true), (cuI 2 false, cuI 2 true)] := by
  have e : spansL [ptIv (vI 2), ptIv (vI 1), ptIv (vI 2)] = [(cuI 2 false, cuI 2 true), (cuI 1 false, cuI 1 true), (cuI 2 false, cuI 2 true)] := by
    rw [spansL_all (by intro x hx; simp only [List.mem_cons, List.not_mem_nil, or_false] at hx; rcases hx with rfl | rfl | rfl <;> (rw [pt_ne]; exact valid_int _))]
    rfl
  have c11 : cmC (cuI 1 false) (cuI 1 true) < 0 := by rw [cm_int]; decide
  have c22 : cmC (cuI 2 false) (cuI 2 true) < 0 := by rw [cm_int]; decide
  have c12 : cmC (cuI 1 true) (cuI 2 false) < 0 := by rw [cm_int]; decide
  refine ⟨⟨fun s hs => ?_, ?_⟩, fun a => ?_⟩
  · simp only [List.mem_cons, List.not_mem_nil, or_false] at hs
    rcases hs with rfl | rfl
    · exact ⟨c11, V_int _ _, V_int _ _⟩
    · exact ⟨c22, V_int _ _, V_int _ _⟩
  · simp only [List.pairwise_cons, List.mem_singleton, List.not_mem_nil, false_imp_iff, implies_true, List.Pairwise.nil, and_true]
    rintro s rfl
    exact c12
  · rw [e]
    dsimp only
    rw [inS_cons, inS_one, inS_cons, inS_cons, inS_one]
    dsimp only
    constructor
    · rintro (h | h)
      · exact .inr (.inl h)
      · exact .inl h
    · rintro (h | h | h)
      · exact .inr h
      · exact .inl h
      · exact .inr h
def ivLow : Iv := ⟨vMin, vI 3, true, false⟩
theorem min_lt_int (n : Int) (b : Bool) : cmC (vMin, false) (cuI n b) < 0 := by
  rw [cmC_ne (a := (vMin, false)) (b := cuI n b) (by show cmpV vMin (vI n) ≠ 0; rw [cmpV_kind (by show (1 : Int) ≠ 3; omega)]; show cmpI 1 3 ≠ 0; decide)]
  show cmpV vMin (vI n) < 0
  rw [cmpV_kind (by show (1 : Int) ≠ 3; omega)]
  show cmpI 1 3 < 0
  decide
theorem int_lt_max (n : Int) (b : Bool) : cmC (cuI n b) (vMax, true) < 0 := by
  rw [cmC_ne (a := cuI n b) (b := (vMax, true)) (by show cmpV (vI n) vMax ≠ 0; rw [cmpV_kind (by show (3 : Int) ≠ 11; omega)]; show cmpI 3 11 ≠ 0; decide)]
  show cmpV (vI n) vMax < 0
  rw [cmpV_kind (by show (3 : Int) ≠ 11; omega)]
  show cmpI 3 11 < 0
  decide
theorem aw_rest : IsNF (fun a => cmC (vMin, false) a ≤ 0 ∧ cmC a (vMax, true) < 0 ∧ ¬ inS cmC a (spansL [ivLow])) [(cuI 3 false, (vMax, true))] := by
  have hne : ivLow.ne = true := by
    unfold Iv.ne
    rw [decide_eq_true (show cmC ivLow.sp.1 ivLow.sp.2 < 0 from min_lt_int 3 false)]
    show (validV vMin && validV (vI 3) && true) = true
    rw [valid_min, valid_int]; rfl
  have e : spansL [ivLow] = [((vMin, false), cuI 3 false)] := by
    rw [spansL_all (by intro x hx; simp at hx; subst hx; exact hne)]; rfl
  have c1 := min_lt_int 3 false
  have c2 := int_lt_max 3 false
  refine ⟨⟨fun s hs => by simp at hs; subst hs; exact ⟨c2, V_int _ _, valid_max⟩, by simp⟩, fun a => ?_⟩
  rw [e]
  dsimp only
  rw [inS_one, inS_one]
  dsimp only
  have t1 := lin_cut.tr (vMin, false) (cuI 3 false) a
  have t2 := lin_cut.anti a (cuI 3 false)
  unfold TR at t1
  constructor
  · rintro ⟨h1, h2⟩
    exact ⟨by have := t1 (by omega) h1; omega, h2, fun k => by have := k.2; omega⟩
  · rintro ⟨h1, h2, h3⟩
    have h4 : ¬ cmC a (cuI 3 false) < 0 := fun k => h3 ⟨h1, k⟩
    exact ⟨by omega, h2⟩
theorem aw_has : hasV [ivI 1 2 false true] (vI 1) = false := by
  have e2 : spansL [ivI 1 2 false true] = [(cuI 1 true, cuI 2 true)] := by
    rw [spansL_all (by intro x hx; simp at hx; subst hx; exact ne_int (by decide))]; rfl
  refine hasV_false fun h => ?_
  have h2 := h.2
  rw [e2, inS_one] at h2
  have : cmC (cuI 1 true) (cuI 1 false) = 1 := by rw [cm_int]; decide
  have h3 : cmC (cuI 1 true) (cuI 1 false) ≤ 0 := h2.1
  omega

theorem results_iv {fn : Func} {p : Tmp} (h : fn.results = #[.cell p 37]) (tmps : Array Value) (g1 off : Nat) (h1 : tmps[p]?.getD undef = .pointer (some ⟨g1, off, none⟩))
    (W : World) (v : PI) (q : IAt W g1 off v) : (results fn tmps).run Tryd.prog W = .ok (aggI v) W := by
  obtain ⟨⟨q0, q1, q2, q3, q4⟩, ⟨r0, r1, r2, r3, r4⟩, s0, s1⟩ := q
  simp only [Nat.add_assoc, Nat.reduceAdd] at r0 r1 r2 r3 r4
  simp [results, h, h1, asAddr, go_sem, q0, q1, q2, q3, q4, r0, r1, r2, r3, r4, s0, s1]
theorem rint_any (n : Int) (w : World) : Calls Tryd.prog 30 #[.int .i64 n] w fun e w' => e = .returned (cI n).val ∧ Below w.heap.size w w' := by
  go_enter Tryd.func30, Tryd.ntmps30
  go_wp2_with fail
  exact bodyPost_ret (results_val rfl _ _ _ rfl _ (cI n) (VAt.of_blk (Blk.new _ _ _))) rfl ⟨rfl, (Below.refl _ _).alloc (Nat.le_refl _) _⟩
abbrev pI (a b : Int) (li hi : Bool) : PI := (((cI a, vI a), (cI b, vI b)), (li, hi))
theorem si_list {w : World} {g n : Nat} {ps : List PI} (h : Blk w g 37 (flat recI ps).toArray) (hn : n = ps.length) (hz : n * 168 ≤ reach) (hok : ∀ p ∈ ps, okI w p) : SI w (some ⟨g, 0, none⟩) n n ps := by
  refine ⟨⟨hn, Nat.le_refl _, fun _ => ⟨g, 0, rfl, h.lt, fun i a hi j v hj => ?_⟩⟩, hz, hok⟩
  rw [Nat.zero_add, h.cell, List.getElem?_toArray]
  exact flat_get recI_length hi hj
theorem okI_int {w : World} (a b : Int) (li hi : Bool) : okI w (pI a b li hi) := ⟨rw_int _ _, rw_int _ _⟩

end Go.Proofs.YtdmabhbhlnpkgaaDoor
