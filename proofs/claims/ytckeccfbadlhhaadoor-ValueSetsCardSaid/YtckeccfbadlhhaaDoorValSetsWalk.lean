/- The walk of the law ValueSets. -/
import Derived.Test.YtckeccfbadlhhaaDoorValFieldsWalk
import Derived.Test.YtckeccfbadlhhaaDoorValSetsPure
namespace Go.Proofs.YtckeccfbadlhhaaDoor
open Go.RowKit

/-- boxes of values -/
structure Boxes (w : World) (L : List (Nat × VC)) (wr : World) : Prop where
  all : ∀ p ∈ L, Blk wr p.1 25 p.2.arr
  bel : Below w.heap.size w wr
theorem Boxes.step {w : World} {L : List (Nat × VC)} {wr w' : World} (h : Boxes w L wr) (hb : Below wr.heap.size wr w') : Boxes w L w' := ⟨fun p hp => (h.all p hp).step hb, h.bel.step' hb⟩
theorem Boxes.push {w : World} {L : List (Nat × VC)} {wr : World} (h : Boxes w L wr) (c : VC) : Boxes w ((wr.heap.size, c) :: L) (wr.alloc (Obj.cells c.arr 25)) :=
  ⟨fun p hp => by
    rcases List.mem_cons.1 hp with rfl | hp
    · exact Blk.new_at rfl
    · exact (h.all p hp).alloc _, h.bel.alloc h.bel.size _⟩
theorem Boxes.at {w : World} {L : List (Nat × VC)} {wr : World} (h : Boxes w L wr) {g : Nat} {c : VC} (hm : (g, c) ∈ L) : Blk wr g 25 c.arr := h.all (g, c) hm
theorem Boxes.refl (w : World) : Boxes w [] w := ⟨fun p hp => by simp at hp, Below.refl _ _⟩

def Val.asDoc (x : Val) : Val := .mk 5 x.n x.t x.l x.d
theorem RV.asDoc {F : Nat → Prop} {w : World} {c : VC} {x : Val} (h : RV F w c x) : RV F w ⟨5, c.n, c.t, c.LA, c.ln, c.lc, c.DA, c.dn, c.dc⟩ x.asDoc := by
  have ho := h.open
  exact RVs.shut ⟨rfl, ho.n, ho.t, ho.tsz, ho.ln, ho.lc, ho.lsz, ho.la, ho.dn, ho.dc, ho.dsz, ho.da⟩

/-- what is known of the numbers -/
structure StN (n dn edn rdn : Nat) : Prop where
  a : n = 0 → edn = dn + 1 ∧ rdn = dn
  b : 0 < n → edn = dn ∧ rdn + 1 = dn

set_option maxRecDepth 100000 in
set_option maxHeartbeats 2000000 in
theorem valueSets_walk (c : VC) (x : Val) (name other : ByteArray) (e : VC) (v : Val) (w : World) (hT : Tabs w) (h : RW w c x) (hd : x.d.length * 96 ≤ reach0) (hn0 : name.size ≤ reach0) (_ : other.size ≤ reach0) (he : RW w e v) :
    Calls Tryd.prog 9 #[c.val, .string name, .string other, e.val] w fun e w' => e = .returned (.bool true) ∧ Below w.heap.size w w' := by
  have hn : name.size ≤ reach := Nat.le_trans hn0 le_reach
  have HD := Lib.hid h.asDoc
  obtain ⟨ck, cn, ct, LA, ln, lc, DA, dn, dc⟩ := c
  have hbig : (x.asDoc.d.length + 1) * 96 ≤ reach := by show (x.d.length + 1) * 96 ≤ reach; unfold reach0 at hd; unfold reach; omega
  have HT := Lib.hid hT
  have HE := Lib.hid he
  have HN := Lib.hid hn
  have HBg := Lib.hid hbig
  have hdn : dn = x.d.length := h.open.dn
  have HDN := Lib.hid hdn
  have hz : dn ≤ 140737488355328 := by unfold reach0 at hd; omega
  have I0 : Hid (Boxes w [(w.heap.size + 1, e), (w.heap.size, ⟨5, cn, ct, LA, ln, lc, DA, dn, dc⟩)] ((w.alloc (Obj.cells (VC.arr ⟨5, cn, ct, LA, ln, lc, DA, dn, dc⟩) 25)).alloc (Obj.cells e.arr 25))) := by
    have := ((Boxes.refl w).push ⟨5, cn, ct, LA, ln, lc, DA, dn, dc⟩).push e
    rw [size_alloc] at this
    exact Lib.hid this
  obtain ⟨fs, hfs, hsd⟩ := HD.out.sd
  simp only at hsd
  have HS := Lib.hid hsd
  have HFS : Hid (fs.map Prod.snd = x.d) := hfs
  have HFL := Lib.hid hsd.sr.ln
  clear h hT he hn hbig hd hn0 hdn hfs hsd
  go_enter Tryd.func9, Tryd.ntmps9
  go_upto_region 2 with fail
  change (Code.region 2 _ _).wp _ _ _ ((w.alloc (Obj.cells (VC.arr ⟨5, cn, ct, LA, ln, lc, DA, dn, dc⟩) 25)).alloc (Obj.cells e.arr 25))
  generalize (w.alloc (Obj.cells (VC.arr ⟨5, cn, ct, LA, ln, lc, DA, dn, dc⟩) 25)).alloc (Obj.cells e.arr 25) = wa at *
  obtain ⟨a0, a1, a2, a3, a4⟩ := VAt.of_blk (I0.out.at (g := w.heap.size) (c := ⟨5, cn, ct, LA, ln, lc, DA, dn, dc⟩) (by simp))
  go_wp2_with fail
  go_loopw [9, 10] (fun v9 v10 wr => ∃ i : Nat, i ≤ dn ∧ v10 = .int .i64 i ∧ v9 = .int .i64 (cntN name (x.d.take i)) ∧ Boxes w [(w.heap.size + 1, e), (w.heap.size, ⟨5, cn, ct, LA, ln, lc, DA, dn, dc⟩)] wr) (fun _ v10 _ => dn - (intOf v10).toNat)
  case atStart => exact ⟨0, Nat.zero_le _, rfl, rfl, I0.out⟩
  case round =>
    obtain ⟨i, hi, rfl, rfl, I⟩ := hrel
    have J := Lib.hid I
    clear a0 a1 a2 a3 a4
    obtain ⟨a0, a1, a2, a3, a4⟩ := VAt.of_blk (I.at (g := w.heap.size) (c := ⟨5, cn, ct, LA, ln, lc, DA, dn, dc⟩) (by simp))
    obtain ⟨b0, b1, b2, b3, b4⟩ := VAt.of_blk (I.at (g := w.heap.size + 1) (c := e) (by simp))
    have hcl : cntN name (x.d.take i) ≤ i := Nat.le_trans (cntN_le _ _) (List.length_take_le _ _)
    by_cases hlt : i < dn
    · obtain ⟨p, hp⟩ : ∃ p, fs[i]? = some p := ⟨_, List.getElem?_eq_getElem (by have := HFL.out; omega)⟩
      have hx : x.d[i]? = some p.2 := by rw [← HFS.out, List.getElem?_map, hp]; rfl
      have HC := Lib.hid (cntN_snoc (name := name) hx)
      obtain ⟨b, off, rfl, _, hs0, hu, _⟩ := HS.out.vat hp
      have y5 := (I.bel.cell (p := ⟨b, off + i * 6, none⟩) hu.lt).trans hs0
      clear hp hx hs0 hu I
      cases hq : (p.2.s.toList == name.toList)
      · have HF : Hid (cntN name (x.d.take (i + 1)) = cntN name (x.d.take i)) := by rw [Hid, HC.out]; unfold isN; rw [hq]; rfl
        go_wp2_with fail
        go_roundw
        case rel => exact ⟨i + 1, by omega, by go_num, by rw [HF.out], J.out⟩
        case measure => simp [intOf]; omega
      · have HF : Hid (cntN name (x.d.take (i + 1)) = cntN name (x.d.take i) + 1) := by rw [Hid, HC.out]; unfold isN; rw [hq]; rfl
        go_wp2_with fail
        go_roundw
        case rel => exact ⟨i + 1, by omega, by go_num, by rw [HF.out]; go_num, J.out⟩
        case measure => simp [intOf]; omega
    · have e1 : x.d.take i = x.d := List.take_of_length_le (by have := HDN.out; omega)
      rw [e1] at hcl ⊢
      clear e1 I
      obtain ⟨n, hn⟩ : ∃ n, n = cntN name x.d := ⟨_, rfl⟩
      rw [← hn] at hcl ⊢
      have HNn := Lib.hid hn
      clear hn
      have l0 := (J.out.at (g := w.heap.size) (c := ⟨5, cn, ct, LA, ln, lc, DA, dn, dc⟩) (by simp)).lt
      have l1 := (J.out.at (g := w.heap.size + 1) (c := e) (by simp)).lt
      go_wp2_with fail
      refine (set_any x.asDoc v ⟨5, cn, ct, LA, ln, lc, DA, dn, dc⟩ e name _ (HD.out.step J.out.bel) (HE.out.step J.out.bel) HN.out HBg.out).mono ?_
      rintro e1 w1 ⟨ce, rfl, hre, hb1⟩
      have I1 := Lib.hid (J.out.step hb1)
      have RE1 := Lib.hid (hre.mono (G := fun _ => True) fun _ _ => trivial)
      clear hre hb1 a0 a1 a2 a3 a4 b0 b1 b2 b3 b4
      go_wp2_with fail
      have I2 := Lib.hid (I1.out.push ce)
      have RE2 := Lib.hid (RE1.out.alloc (Obj.cells ce.arr 25))
      refine (get_any (setW x.asDoc name v) ce name _ RE2.out).mono ?_
      rintro e2 w2 ⟨cx, rfl, hrx, hb2⟩
      rw [get_set rfl] at hrx ⊢
      have I3 := Lib.hid (I2.out.step hb2)
      have RE3 := Lib.hid (RE2.out.step hb2)
      have RX3 := Lib.hid (hrx.mono (G := fun _ => True) fun _ _ => trivial)
      have gl : w1.heap.size < w2.heap.size := (I3.out.at (g := w1.heap.size) (c := ce) (by simp)).lt
      have hw1 : w.heap.size + 1 < w1.heap.size := (I1.out.at (g := w.heap.size + 1) (c := e) (by simp)).lt
      clear hrx hb2 I1 RE1 I2 RE2 l0 l1
      generalize w1.heap.size = g11 at *
      have hlen := len_set (x := x.asDoc) (v := v) (name := name) rfl
      rw [← RE3.out.open.dn, show x.asDoc.d = x.d from rfl, ← HNn.out, ← HDN.out] at hlen
      obtain ⟨ek, en, et, eLA, eln, elc, eDA, edn, edc⟩ := ce
      simp only at hlen
      have HLn := Lib.hid hlen
      obtain ⟨a0, a1, a2, a3, a4⟩ := VAt.of_blk (I3.out.at (g := w.heap.size) (c := ⟨5, cn, ct, LA, ln, lc, DA, dn, dc⟩) (by simp))
      obtain ⟨b0, b1, b2, b3, b4⟩ := VAt.of_blk (I3.out.at (g := w.heap.size + 1) (c := e) (by simp))
      obtain ⟨c0, c1, c2, c3, c4⟩ := VAt.of_blk (I3.out.at (g := g11) (c := ⟨ek, en, et, eLA, eln, elc, eDA, edn, edc⟩) (by simp))
      have l0 : w.heap.size < w2.heap.size := by omega
      have l1 : w.heap.size + 1 < w2.heap.size := by omega
      clear hlen
      go_wp2_with fail
      have I4 := Lib.hid (I3.out.push cx)
      refine (rsame_eq v cx e _ (RX3.out.alloc _) (HE.out.step I4.out.bel)).mono ?_
      rintro e3 w3 ⟨rfl, hb3⟩
      have I5 := Lib.hid (I4.out.step hb3)
      have RE5 := Lib.hid ((RE3.out.alloc (Obj.cells cx.arr 25)).step hb3)
      clear hb3 I3 I4 RE3 RX3 a0 a1 a2 a3 a4 b0 b1 b2 b3 b4 c0 c1 c2 c3 c4 gl l0 l1
      generalize w2.heap.size = g12 at *
      obtain ⟨a0, a1, a2, a3, a4⟩ := VAt.of_blk (I5.out.at (g := w.heap.size) (c := ⟨5, cn, ct, LA, ln, lc, DA, dn, dc⟩) (by simp))
      obtain ⟨b0, b1, b2, b3, b4⟩ := VAt.of_blk (I5.out.at (g := w.heap.size + 1) (c := e) (by simp))
      obtain ⟨c0, c1, c2, c3, c4⟩ := VAt.of_blk (I5.out.at (g := g11) (c := ⟨ek, en, et, eLA, eln, elc, eDA, edn, edc⟩) (by simp))
      have key : (n < 1 ∧ edn = dn + 1) ∨ (1 ≤ n ∧ n < 2 ∧ edn = dn) ∨ (2 ≤ n ∧ edn = dn) := by
        have := HLn.out
        rcases Nat.eq_zero_or_pos n with h0 | h0
        · rw [if_pos h0] at this; exact .inl ⟨by omega, this⟩
        · rw [if_neg (by omega)] at this
          rcases Nat.lt_or_ge n 2 with h2 | h2
          · exact .inr (.inl ⟨by omega, h2, by omega⟩)
          · exact .inr (.inr ⟨h2, by omega⟩)
      clear HLn
      have hrem := remW_d (x := x.asDoc) (name := name) rfl
      rw [show x.asDoc.d = x.d from rfl, ← HNn.out, ← HDN.out] at hrem
      have HRm := Lib.hid hrem.2.2
      have hge := get_rem (x := x.asDoc) (name := name) rfl
      rw [show x.asDoc.d = x.d from rfl, ← HNn.out] at hge
      have HGe := Lib.hid hge
      clear hrem hge HNn
      rcases key with ⟨h1, rfl⟩ | ⟨h1, h2, rfl⟩ | ⟨h2, rfl⟩
      · have f1 : (((dn + 1 : Nat) : Int) != (dn : Int)) = true := by simp; omega
        have f2 : (((dn : Int) + 1) != (dn : Int)) = true := by simp; omega
        go_upto_if 82 with fail
        clear f1 f2
        go_cut [] (fun wx => Boxes w [(w.heap.size + 1, e), (w.heap.size, ⟨5, cn, ct, LA, ln, lc, DA, dn, dc⟩)] wx)
        case first => as_aux_lemma =>
          cases hq : (name.toList == other.toList)
          · go_wp2_with fail
            refine (get_any x.asDoc ⟨5, cn, ct, LA, ln, lc, DA, dn, dc⟩ other _ (HD.out.step I5.out.bel)).mono ?_
            rintro e4 w4 ⟨cp, rfl, hrp, hb4⟩
            have I6 := Lib.hid (I5.out.step hb4)
            have RE6 := Lib.hid (RE5.out.step hb4)
            have RP6 := Lib.hid (hrp.mono (G := fun _ => True) fun _ _ => trivial)
            clear hrp hb4 a0 a1 a2 a3 a4 b0 b1 b2 b3 b4 c0 c1 c2 c3 c4
            obtain ⟨c0, c1, c2, c3, c4⟩ := VAt.of_blk (I6.out.at (g := g11) (c := ⟨ek, en, et, eLA, eln, elc, eDA, dn + 1, edc⟩) (by simp))
            have l11 := (I6.out.at (g := g11) (c := ⟨ek, en, et, eLA, eln, elc, eDA, dn + 1, edc⟩) (by simp)).lt
            go_wp2_with fail
            have I7 := Lib.hid (I6.out.push cp)
            refine (get_any (setW x.asDoc name v) ⟨ek, en, et, eLA, eln, elc, eDA, dn + 1, edc⟩ other _ (RE6.out.alloc _)).mono ?_
            rintro e5 w5 ⟨cq, rfl, hrq, hb5⟩
            rw [get_set_other rfl hq] at hrq ⊢
            have I8 := Lib.hid (I7.out.step hb5)
            have RP8 := Lib.hid ((RP6.out.alloc (Obj.cells cp.arr 25)).step hb5)
            have RQ8 := Lib.hid (hrq.mono (G := fun _ => True) fun _ _ => trivial)
            clear hrq hb5 I7 I6 RP6 RE6 c0 c1 c2 c3 c4 l11
            generalize w4.heap.size = g14 at *
            obtain ⟨d0, d1, d2, d3, d4⟩ := VAt.of_blk (I8.out.at (g := g14) (c := cp) (by simp))
            have l14 := (I8.out.at (g := g14) (c := cp) (by simp)).lt
            go_wp2_with fail
            have I9 := Lib.hid (I8.out.push cq)
            refine (rsame_eq _ cp cq _ (RP8.out.alloc _) (RQ8.out.alloc _)).mono ?_
            rintro e6 w6 ⟨rfl, hb6⟩
            have IA := Lib.hid (I9.out.step hb6)
            clear hb6 d0 d1 d2 d3 d4 l14 I9 I8 RP8 RQ8
            go_wp2_with fail
            go_meet
            exact ⟨fun p hp => IA.out.all p (by simp only [List.mem_cons, List.not_mem_nil, or_false] at hp ⊢; rcases hp with rfl | rfl <;> simp), IA.out.bel⟩
          · go_wp2_with fail
            go_meet
            exact ⟨fun p hp => I5.out.all p (by simp only [List.mem_cons, List.not_mem_nil, or_false] at hp ⊢; rcases hp with rfl | rfl <;> simp), I5.out.bel⟩
        case rest =>
          have IC := Lib.hid hcut
          clear hcut I5 RE5 a0 a1 a2 a3 a4 b0 b1 b2 b3 b4 c0 c1 c2 c3 c4
          obtain ⟨a0, a1, a2, a3, a4⟩ := VAt.of_blk (IC.out.at (g := w.heap.size) (c := ⟨5, cn, ct, LA, ln, lc, DA, dn, dc⟩) (by simp))
          go_wp2_with fail
          refine (remove_any x.asDoc ⟨5, cn, ct, LA, ln, lc, DA, dn, dc⟩ name _ (HD.out.step IC.out.bel)).mono ?_
          rintro e7 w7 ⟨cr, rfl, hrr, hb7⟩
          have hrd := hrr.open.dn
          rw [HRm.out] at hrd
          obtain ⟨rk, rn, rt, rLA, rln, rlc, rDA, rdn, rdc⟩ := cr
          simp only at hrd
          have ID := Lib.hid (IC.out.step hb7)
          have RR := Lib.hid (hrr.mono (G := fun _ => True) fun _ _ => trivial)
          clear hrr hb7 IC a0 a1 a2 a3 a4
          have hrd2 : rdn = dn := by omega
          have HRD := Lib.hid hrd2
          clear hrd2
          clear hrd HRm
          go_wp2_with fail
          have IE := Lib.hid (ID.out.push ⟨rk, rn, rt, rLA, rln, rlc, rDA, rdn, rdc⟩)
          refine (get_any (remW x.asDoc name) ⟨rk, rn, rt, rLA, rln, rlc, rDA, rdn, rdc⟩ name _ (RR.out.alloc _)).mono ?_
          rintro e8 w8 ⟨cg, rfl, hrg, hb8⟩
          rw [HGe.out]
          have IF := Lib.hid (IE.out.step hb8)
          have IG := Lib.hid (IF.out.push cg)
          clear hrg hb8 IE ID RR HGe
          generalize w7.heap.size = g18 at *
          obtain ⟨a0, a1, a2, a3, a4⟩ := VAt.of_blk (IF.out.at (g := w.heap.size) (c := ⟨5, cn, ct, LA, ln, lc, DA, dn, dc⟩) (by simp))
          obtain ⟨b0, b1, b2, b3, b4⟩ := VAt.of_blk (IF.out.at (g := g18) (c := ⟨rk, rn, rt, rLA, rln, rlc, rDA, rdn, rdc⟩) (by simp))
          have l18 := (IF.out.at (g := g18) (c := ⟨rk, rn, rt, rLA, rln, rlc, rDA, rdn, rdc⟩) (by simp)).lt
          have l0 := (IF.out.at (g := w.heap.size) (c := ⟨5, cn, ct, LA, ln, lc, DA, dn, dc⟩) (by simp)).lt
          rw [decide_eq_false (show ¬ 1 < n by omega)]
          have f3 : ((rdn : Int) == (dn : Int)) = true := by have := HRD.out; simp; omega
          have f6 : min (0 : Int) 1 = 0 := rfl
          have f5 : decide ((1 : Int) < (n : Int)) = false := by simp; omega
          go_wp2_with fail
          refine (awake_any _ (HT.out.step IG.out.bel)).mono ?_
          rintro e9 w9 ⟨rfl, hb9⟩
          go_wp2_with fail
          go_ret
          exact ⟨rfl, IG.out.bel.step' hb9⟩
      · go_upto_if 82 with fail
        go_cut [] (fun wx => Boxes w [(w.heap.size + 1, e), (w.heap.size, ⟨5, cn, ct, LA, ln, lc, DA, edn, dc⟩)] wx)
        case first => as_aux_lemma =>
          cases hq : (name.toList == other.toList)
          · go_wp2_with fail
            refine (get_any x.asDoc ⟨5, cn, ct, LA, ln, lc, DA, edn, dc⟩ other _ (HD.out.step I5.out.bel)).mono ?_
            rintro e4 w4 ⟨cp, rfl, hrp, hb4⟩
            have I6 := Lib.hid (I5.out.step hb4)
            have RE6 := Lib.hid (RE5.out.step hb4)
            have RP6 := Lib.hid (hrp.mono (G := fun _ => True) fun _ _ => trivial)
            clear hrp hb4 a0 a1 a2 a3 a4 b0 b1 b2 b3 b4 c0 c1 c2 c3 c4
            obtain ⟨c0, c1, c2, c3, c4⟩ := VAt.of_blk (I6.out.at (g := g11) (c := ⟨ek, en, et, eLA, eln, elc, eDA, edn, edc⟩) (by simp))
            have l11 := (I6.out.at (g := g11) (c := ⟨ek, en, et, eLA, eln, elc, eDA, edn, edc⟩) (by simp)).lt
            go_wp2_with fail
            have I7 := Lib.hid (I6.out.push cp)
            refine (get_any (setW x.asDoc name v) ⟨ek, en, et, eLA, eln, elc, eDA, edn, edc⟩ other _ (RE6.out.alloc _)).mono ?_
            rintro e5 w5 ⟨cq, rfl, hrq, hb5⟩
            rw [get_set_other rfl hq] at hrq ⊢
            have I8 := Lib.hid (I7.out.step hb5)
            have RP8 := Lib.hid ((RP6.out.alloc (Obj.cells cp.arr 25)).step hb5)
            have RQ8 := Lib.hid (hrq.mono (G := fun _ => True) fun _ _ => trivial)
            clear hrq hb5 I7 I6 RP6 RE6 c0 c1 c2 c3 c4 l11
            generalize w4.heap.size = g14 at *
            obtain ⟨d0, d1, d2, d3, d4⟩ := VAt.of_blk (I8.out.at (g := g14) (c := cp) (by simp))
            have l14 := (I8.out.at (g := g14) (c := cp) (by simp)).lt
            go_wp2_with fail
            have I9 := Lib.hid (I8.out.push cq)
            refine (rsame_eq _ cp cq _ (RP8.out.alloc _) (RQ8.out.alloc _)).mono ?_
            rintro e6 w6 ⟨rfl, hb6⟩
            have IA := Lib.hid (I9.out.step hb6)
            clear hb6 d0 d1 d2 d3 d4 l14 I9 I8 RP8 RQ8
            go_wp2_with fail
            go_meet
            exact ⟨fun p hp => IA.out.all p (by simp only [List.mem_cons, List.not_mem_nil, or_false] at hp ⊢; rcases hp with rfl | rfl <;> simp), IA.out.bel⟩
          · go_wp2_with fail
            go_meet
            exact ⟨fun p hp => I5.out.all p (by simp only [List.mem_cons, List.not_mem_nil, or_false] at hp ⊢; rcases hp with rfl | rfl <;> simp), I5.out.bel⟩
        case rest =>
          have IC := Lib.hid hcut
          clear hcut I5 RE5 a0 a1 a2 a3 a4 b0 b1 b2 b3 b4 c0 c1 c2 c3 c4
          obtain ⟨a0, a1, a2, a3, a4⟩ := VAt.of_blk (IC.out.at (g := w.heap.size) (c := ⟨5, cn, ct, LA, ln, lc, DA, edn, dc⟩) (by simp))
          go_wp2_with fail
          refine (remove_any x.asDoc ⟨5, cn, ct, LA, ln, lc, DA, edn, dc⟩ name _ (HD.out.step IC.out.bel)).mono ?_
          rintro e7 w7 ⟨cr, rfl, hrr, hb7⟩
          have hrd := hrr.open.dn
          rw [HRm.out] at hrd
          obtain ⟨rk, rn, rt, rLA, rln, rlc, rDA, rdn, rdc⟩ := cr
          simp only at hrd
          have ID := Lib.hid (IC.out.step hb7)
          have RR := Lib.hid (hrr.mono (G := fun _ => True) fun _ _ => trivial)
          clear hrr hb7 IC a0 a1 a2 a3 a4
          obtain rfl : edn - 1 = rdn := by omega
          clear hrd HRm
          go_wp2_with fail
          have IE := Lib.hid (ID.out.push ⟨rk, rn, rt, rLA, rln, rlc, rDA, edn - 1, rdc⟩)
          refine (get_any (remW x.asDoc name) ⟨rk, rn, rt, rLA, rln, rlc, rDA, edn - 1, rdc⟩ name _ (RR.out.alloc _)).mono ?_
          rintro e8 w8 ⟨cg, rfl, hrg, hb8⟩
          rw [HGe.out]
          have IF := Lib.hid (IE.out.step hb8)
          have IG := Lib.hid (IF.out.push cg)
          clear hrg hb8 IE ID RR HGe
          generalize w7.heap.size = g18 at *
          obtain ⟨a0, a1, a2, a3, a4⟩ := VAt.of_blk (IF.out.at (g := w.heap.size) (c := ⟨5, cn, ct, LA, ln, lc, DA, edn, dc⟩) (by simp))
          obtain ⟨b0, b1, b2, b3, b4⟩ := VAt.of_blk (IF.out.at (g := g18) (c := ⟨rk, rn, rt, rLA, rln, rlc, rDA, edn - 1, rdc⟩) (by simp))
          have l18 := (IF.out.at (g := g18) (c := ⟨rk, rn, rt, rLA, rln, rlc, rDA, edn - 1, rdc⟩) (by simp)).lt
          have l0 := (IF.out.at (g := w.heap.size) (c := ⟨5, cn, ct, LA, ln, lc, DA, edn, dc⟩) (by simp)).lt
          rw [decide_eq_false (show ¬ 1 < n by omega)]
          have f3 : (((edn - 1 : Nat) : Int) == (edn : Int) - (n : Int)) = true := by simp; omega
          have f4 : (((edn - 1 : Nat) : Int) == (edn : Int) - 1) = true := by simp; omega
          have f5 : decide ((1 : Int) < (n : Int)) = false := by simp; omega
          go_wp2_with fail
          refine (awake_any _ (HT.out.step IG.out.bel)).mono ?_
          rintro e9 w9 ⟨rfl, hb9⟩
          go_wp2_with fail
          go_ret
          exact ⟨rfl, IG.out.bel.step' hb9⟩
      · go_upto_if 82 with fail
        go_cut [] (fun wx => Boxes w [(w.heap.size + 1, e), (w.heap.size, ⟨5, cn, ct, LA, ln, lc, DA, edn, dc⟩)] wx)
        case first => as_aux_lemma =>
          cases hq : (name.toList == other.toList)
          · go_wp2_with fail
            refine (get_any x.asDoc ⟨5, cn, ct, LA, ln, lc, DA, edn, dc⟩ other _ (HD.out.step I5.out.bel)).mono ?_
            rintro e4 w4 ⟨cp, rfl, hrp, hb4⟩
            have I6 := Lib.hid (I5.out.step hb4)
            have RE6 := Lib.hid (RE5.out.step hb4)
            have RP6 := Lib.hid (hrp.mono (G := fun _ => True) fun _ _ => trivial)
            clear hrp hb4 a0 a1 a2 a3 a4 b0 b1 b2 b3 b4 c0 c1 c2 c3 c4
            obtain ⟨c0, c1, c2, c3, c4⟩ := VAt.of_blk (I6.out.at (g := g11) (c := ⟨ek, en, et, eLA, eln, elc, eDA, edn, edc⟩) (by simp))
            have l11 := (I6.out.at (g := g11) (c := ⟨ek, en, et, eLA, eln, elc, eDA, edn, edc⟩) (by simp)).lt
            go_wp2_with fail
            have I7 := Lib.hid (I6.out.push cp)
            refine (get_any (setW x.asDoc name v) ⟨ek, en, et, eLA, eln, elc, eDA, edn, edc⟩ other _ (RE6.out.alloc _)).mono ?_
            rintro e5 w5 ⟨cq, rfl, hrq, hb5⟩
            rw [get_set_other rfl hq] at hrq ⊢
            have I8 := Lib.hid (I7.out.step hb5)
            have RP8 := Lib.hid ((RP6.out.alloc (Obj.cells cp.arr 25)).step hb5)
            have RQ8 := Lib.hid (hrq.mono (G := fun _ => True) fun _ _ => trivial)
            clear hrq hb5 I7 I6 RP6 RE6 c0 c1 c2 c3 c4 l11
            generalize w4.heap.size = g14 at *
            obtain ⟨d0, d1, d2, d3, d4⟩ := VAt.of_blk (I8.out.at (g := g14) (c := cp) (by simp))
            have l14 := (I8.out.at (g := g14) (c := cp) (by simp)).lt
            go_wp2_with fail
            have I9 := Lib.hid (I8.out.push cq)
            refine (rsame_eq _ cp cq _ (RP8.out.alloc _) (RQ8.out.alloc _)).mono ?_
            rintro e6 w6 ⟨rfl, hb6⟩
            have IA := Lib.hid (I9.out.step hb6)
            clear hb6 d0 d1 d2 d3 d4 l14 I9 I8 RP8 RQ8
            go_wp2_with fail
            go_meet
            exact ⟨fun p hp => IA.out.all p (by simp only [List.mem_cons, List.not_mem_nil, or_false] at hp ⊢; rcases hp with rfl | rfl <;> simp), IA.out.bel⟩
          · go_wp2_with fail
            go_meet
            exact ⟨fun p hp => I5.out.all p (by simp only [List.mem_cons, List.not_mem_nil, or_false] at hp ⊢; rcases hp with rfl | rfl <;> simp), I5.out.bel⟩
        case rest =>
          have IC := Lib.hid hcut
          clear hcut I5 RE5 a0 a1 a2 a3 a4 b0 b1 b2 b3 b4 c0 c1 c2 c3 c4
          obtain ⟨a0, a1, a2, a3, a4⟩ := VAt.of_blk (IC.out.at (g := w.heap.size) (c := ⟨5, cn, ct, LA, ln, lc, DA, edn, dc⟩) (by simp))
          go_wp2_with fail
          refine (remove_any x.asDoc ⟨5, cn, ct, LA, ln, lc, DA, edn, dc⟩ name _ (HD.out.step IC.out.bel)).mono ?_
          rintro e7 w7 ⟨cr, rfl, hrr, hb7⟩
          have hrd := hrr.open.dn
          rw [HRm.out] at hrd
          obtain ⟨rk, rn, rt, rLA, rln, rlc, rDA, rdn, rdc⟩ := cr
          simp only at hrd
          have ID := Lib.hid (IC.out.step hb7)
          have RR := Lib.hid (hrr.mono (G := fun _ => True) fun _ _ => trivial)
          clear hrr hb7 IC a0 a1 a2 a3 a4
          obtain rfl : edn - 1 = rdn := by omega
          clear hrd HRm
          go_wp2_with fail
          have IE := Lib.hid (ID.out.push ⟨rk, rn, rt, rLA, rln, rlc, rDA, edn - 1, rdc⟩)
          refine (get_any (remW x.asDoc name) ⟨rk, rn, rt, rLA, rln, rlc, rDA, edn - 1, rdc⟩ name _ (RR.out.alloc _)).mono ?_
          rintro e8 w8 ⟨cg, rfl, hrg, hb8⟩
          rw [HGe.out]
          have IF := Lib.hid (IE.out.step hb8)
          have IG := Lib.hid (IF.out.push cg)
          clear hrg hb8 IE ID RR HGe
          generalize w7.heap.size = g18 at *
          obtain ⟨a0, a1, a2, a3, a4⟩ := VAt.of_blk (IF.out.at (g := w.heap.size) (c := ⟨5, cn, ct, LA, ln, lc, DA, edn, dc⟩) (by simp))
          obtain ⟨b0, b1, b2, b3, b4⟩ := VAt.of_blk (IF.out.at (g := g18) (c := ⟨rk, rn, rt, rLA, rln, rlc, rDA, edn - 1, rdc⟩) (by simp))
          have l18 := (IF.out.at (g := g18) (c := ⟨rk, rn, rt, rLA, rln, rlc, rDA, edn - 1, rdc⟩) (by simp)).lt
          have l0 := (IF.out.at (g := w.heap.size) (c := ⟨5, cn, ct, LA, ln, lc, DA, edn, dc⟩) (by simp)).lt
          rw [decide_eq_true (show 1 < n by omega)]
          have f3 : (((edn - 1 : Nat) : Int) == (edn : Int) - 1) = true := by simp; omega
          go_wp2_with fail
          refine (awake_any _ (HT.out.step IG.out.bel)).mono ?_
          rintro e9 w9 ⟨rfl, hb9⟩
          go_wp2_with fail
          go_ret
          exact ⟨rfl, IG.out.bel.step' hb9⟩

end Go.Proofs.YtckeccfbadlhhaaDoor
