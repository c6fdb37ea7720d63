/- The contract of the reference's Same. -/
import Derived.Test.YtckeccfbadlhhaaDoorValCmp
import Derived.Laws.Strings
import Derived.WideShapes
namespace Go.Proofs.YtckeccfbadlhhaaDoor
open Go.RowKit

/-- identical values -/
noncomputable def sameV (x y : Val) : Bool := @decide (x = y) (Classical.propDecidable _)
theorem sameV_true {x y : Val} (h : x = y) : sameV x y = true := by unfold sameV; exact @decide_eq_true _ (Classical.propDecidable _) h
theorem sameV_false {x y : Val} (h : x ≠ y) : sameV x y = false := by unfold sameV; exact @decide_eq_false _ (Classical.propDecidable _) h
theorem sameV_eq {x y : Val} (h : sameV x y = true) : x = y := by unfold sameV at h; exact @of_decide_eq_true _ (Classical.propDecidable _) h
theorem sameV_ne {x y : Val} (h : sameV x y = false) : x ≠ y := by unfold sameV at h; exact @of_decide_eq_false _ (Classical.propDecidable _) h
theorem Val.ext' {x y : Val} (h1 : x.k = y.k) (h2 : x.n = y.n) (h3 : x.t = y.t) (h4 : x.l = y.l) (h5 : x.d = y.d) : x = y := by
  cases x; cases y
  simp only [Val.k, Val.n, Val.t, Val.l, Val.d] at *
  subst h1 h2 h3 h4 h5
  rfl
theorem Fld.ext' {x y : Fld} (h1 : x.s = y.s) (h2 : x.v = y.v) : x = y := by
  cases x; cases y
  simp only [Fld.s, Fld.v] at *
  subst h1 h2
  rfl
theorem bytes_eq {a b : ByteArray} : a.toList = b.toList ↔ a = b := by
  constructor
  · intro h
    rw [Go.ByteArray.toList_eq, Go.ByteArray.toList_eq] at h
    exact Go.WideShapes.bytes_inj h
  · rintro rfl; rfl
theorem take_eq_next {α : Type} {l m : List α} {i : Nat} {x y : α} (h : l.take i = m.take i) (hx : l[i]? = some x) (hy : m[i]? = some y) (e : x = y) : l.take (i + 1) = m.take (i + 1) := by
  rw [take_snoc' hx, take_snoc' hy, h, e]
theorem ne_of_at {α : Type} {l m : List α} {i : Nat} {x y : α} (hx : l[i]? = some x) (hy : m[i]? = some y) (e : x ≠ y) : l ≠ m := by
  rintro rfl
  rw [hx] at hy
  exact e (by simpa using hy)

def RSameAt (x : Val) : Prop := ∀ (y : Val) (c d : VC) (w : World), RW w c x → RW w d y →
    Calls Tryd.prog 21 #[c.val, d.val] w fun e w' => e = .returned (.bool (sameV x y)) ∧ Below w.heap.size w w'

set_option maxRecDepth 100000 in
set_option maxHeartbeats 4000000 in
theorem rsame_any : ∀ x, RSameAt x := by
  intro x
  induction x using Val.ind with
  | h k n t l d ihl ihd =>
  intro y c e w hx hy
  obtain ⟨ck, cn, ct, cLA, cln, clc, cDA, cdn, cdc⟩ := c
  obtain ⟨ek, en, et, eLA, eln, elc, eDA, edn, edc⟩ := e
  have hk : ck = k := hx.open.k
  have hn : cn = n := hx.open.n
  have ht : ct = t := hx.open.t
  subst hk hn ht
  have hk2 : ek = y.k := hy.open.k
  have hn2 : en = y.n := hy.open.n
  have ht2 : et = y.t := hy.open.t
  have hl1 : cln = l.length := hx.open.ln
  have hl2 : eln = y.l.length := hy.open.ln
  have hd1 : cdn = d.length := hx.open.dn
  have hd2 : edn = y.d.length := hy.open.dn
  have I0 : Hid (CpInv w ⟨ck, cn, ct, cLA, cln, clc, cDA, cdn, cdc⟩ ⟨ek, en, et, eLA, eln, elc, eDA, edn, edc⟩ ((w.alloc (Obj.cells #[.int .i64 ck, .int .i64 cn, .string ct, .slice cLA cln clc, .slice cDA cdn cdc] 25)).alloc (Obj.cells #[.int .i64 ek, .int .i64 en, .string et, .slice eLA eln elc, .slice eDA edn edc] 25))) :=
    Lib.hid ⟨(Blk.new_at rfl).alloc _, Blk.new_at (by simp), ((Below.refl _ _).alloc (Nat.le_refl _) _).alloc (by simp) _⟩
  cases h1 : (ck != ek)
  rotate_left
  · have HV : Hid (sameV (.mk ck cn ct l d) y = false) := sameV_false (by rintro rfl; simp [hk2, Val.k] at h1)
    clear hx hy ihl ihd hk2 hn2 ht2 hl1 hl2 hd1 hd2
    go_enter Tryd.func21, Tryd.ntmps21
    go_wp2_with fail
    go_ret
    exact ⟨by rw [HV.out]; rfl, I0.out.bel⟩
  cases h2 : (cn != en)
  rotate_left
  · have HV : Hid (sameV (.mk ck cn ct l d) y = false) := sameV_false (by rintro rfl; simp [hn2, Val.n] at h2)
    clear hx hy ihl ihd hk2 hn2 ht2 hl1 hl2 hd1 hd2
    go_enter Tryd.func21, Tryd.ntmps21
    go_wp2_with fail
    go_ret
    exact ⟨by rw [HV.out]; rfl, I0.out.bel⟩
  cases h3 : (ct.toList == et.toList)
  · have HV : Hid (sameV (.mk ck cn ct l d) y = false) := sameV_false (by rintro rfl; simp [ht2, Val.t] at h3)
    clear hx hy ihl ihd hk2 hn2 ht2 hl1 hl2 hd1 hd2
    go_enter Tryd.func21, Tryd.ntmps21
    go_wp2_with fail
    go_ret
    exact ⟨by rw [HV.out]; rfl, I0.out.bel⟩
  cases h4 : ((cln : Int) != (eln : Int))
  rotate_left
  · have HV : Hid (sameV (.mk ck cn ct l d) y = false) := sameV_false (by rintro rfl; simp [hl1, hl2, Val.l] at h4)
    clear hx hy ihl ihd hk2 hn2 ht2 hl1 hl2 hd1 hd2
    go_enter Tryd.func21, Tryd.ntmps21
    go_wp2_with fail
    go_ret
    exact ⟨by rw [HV.out]; rfl, I0.out.bel⟩
  cases h5 : ((cdn : Int) != (edn : Int))
  rotate_left
  · have HV : Hid (sameV (.mk ck cn ct l d) y = false) := sameV_false (by rintro rfl; simp [hd1, hd2, Val.d] at h5)
    clear hx hy ihl ihd hk2 hn2 ht2 hl1 hl2 hd1 hd2
    go_enter Tryd.func21, Tryd.ntmps21
    go_wp2_with fail
    go_ret
    exact ⟨by rw [HV.out]; rfl, I0.out.bel⟩
  have e1 : ck = ek := by simpa using h1
  have e2 : cn = en := by simpa using h2
  have e3 : ct = et := bytes_eq.1 (by simpa using h3)
  have e4 : cln = eln := by simp at h4; omega
  have e5 : cdn = edn := by simp at h5; omega
  subst e1 e2 e3 e4 e5
  have HV : Hid (l = y.l → d = y.d → sameV (.mk ck cn ct l d) y = true) := fun a b => sameV_true (Val.ext' hk2 hn2 ht2 a b)
  have HV1 : Hid (l ≠ y.l → sameV (.mk ck cn ct l d) y = false) := fun a => sameV_false (by rintro rfl; exact a rfl)
  have HV2 : Hid (d ≠ y.d → sameV (.mk ck cn ct l d) y = false) := fun a => sameV_false (by rintro rfl; exact a rfl)
  obtain ⟨ps, hps, hsl⟩ := hx.sl
  obtain ⟨qs, hqs, hql⟩ := hy.sl
  obtain ⟨fs, hfs, hfl⟩ := hx.sd
  obtain ⟨gs, hgs, hgl⟩ := hy.sd
  simp only at hsl hql hfl hgl
  have hz1 := hsl.sz
  have hz2 := hfl.sz
  unfold reach at hz1 hz2
  have P1 := Lib.hid hsl
  have P2 := Lib.hid hql
  have Q1 := Lib.hid hfl
  have Q2 := Lib.hid hgl
  have HN1 := Lib.hid hl1
  have HN2 := Lib.hid hl2
  have HM1 := Lib.hid hd1
  have HM2 := Lib.hid hd2
  have HS1 : Hid (ps.map Prod.snd = l) := hps
  have HS2 : Hid (qs.map Prod.snd = y.l) := hqs
  have HT1 : Hid (fs.map Prod.snd = d) := hfs
  have HT2 : Hid (gs.map Prod.snd = y.d) := hgs
  have IH := Lib.hid ihl
  have ID := Lib.hid ihd
  clear hx hy ihl ihd hk2 hn2 ht2 hsl hql hps hqs hfl hgl hfs hgs hl1 hl2 hd1 hd2 h1 h2 h3 h4 h5
  go_enter Tryd.func21, Tryd.ntmps21
  go_wp2_with fail
  go_loopw [5] (fun v5 wr => ∃ i : Nat, i ≤ cln ∧ v5 = .int .i64 i ∧ l.take i = y.l.take i ∧ CpInv w ⟨ck, cn, ct, cLA, cln, clc, cDA, cdn, cdc⟩ ⟨ck, cn, ct, eLA, cln, elc, eDA, cdn, edc⟩ wr) (fun v5 _ => cln - (intOf v5).toNat)
  case atStart => exact ⟨0, Nat.zero_le _, rfl, rfl, I0.out⟩
  case round =>
    obtain ⟨i, hi1, rfl, hq, I⟩ := hrel
    have HQ := Lib.hid hq
    have J := Lib.hid I
    have q0 := I.b0.cell 3
    have q1 := I.b1.cell 3
    simp at q0 q1
    clear hq
    by_cases hlt : i < cln
    · obtain ⟨p, hp⟩ : ∃ p, ps[i]? = some p := ⟨_, List.getElem?_eq_getElem (by have := P1.out.sr.ln; omega)⟩
      obtain ⟨q, hq⟩ : ∃ q, qs[i]? = some q := ⟨_, List.getElem?_eq_getElem (by have := P2.out.sr.ln; omega)⟩
      obtain ⟨b1, o1, rfl, _, hu1, hr1⟩ := P1.out.vat hp
      obtain ⟨b2, o2, rfl, _, hu2, hr2⟩ := P2.out.vat hq
      have g1 : l[i]? = some p.2 := by rw [← HS1.out, List.getElem?_map, hp]; rfl
      have g2 : y.l[i]? = some q.2 := by rw [← HS2.out, List.getElem?_map, hq]; rfl
      have HA : Hid (sameV p.2 q.2 = true → l.take (i + 1) = y.l.take (i + 1)) := fun h => take_eq_next HQ.out g1 g2 (sameV_eq h)
      have HB : Hid (sameV p.2 q.2 = false → l ≠ y.l) := fun h => ne_of_at g1 g2 (sameV_ne h)
      obtain ⟨y0, y1, y2, y3, y4⟩ := hu1.keep (I.bel.block b1 hu1.lt)
      obtain ⟨z0, z1, z2, z3, z4⟩ := hu2.keep (I.bel.block b2 hu2.lt)
      have E0 : ∀ k : BW wr, k.val.cell? ⟨w.heap.size, 3, none⟩ = some (.slice (some ⟨b1, o1, none⟩) cln clc) := fun k => k.cell (J.out.b0.cell 3)
      have E1 : ∀ k : BW wr, k.val.cell? ⟨w.heap.size + 1, 3, none⟩ = some (.slice (some ⟨b2, o2, none⟩) cln elc) := fun k => k.cell (J.out.b1.cell 3)
      have Y0 : ∀ k : BW wr, k.val.cell? ⟨b1, o1 + i * 5, none⟩ = some (.int .i64 p.1.k) := fun k => k.cell y0
      have Y1 : ∀ k : BW wr, k.val.cell? ⟨b1, o1 + i * 5 + 1, none⟩ = some (.int .i64 p.1.n) := fun k => k.cell y1
      have Y2 : ∀ k : BW wr, k.val.cell? ⟨b1, o1 + i * 5 + 2, none⟩ = some (.string p.1.t) := fun k => k.cell y2
      have Y3 : ∀ k : BW wr, k.val.cell? ⟨b1, o1 + i * 5 + 3, none⟩ = some (.slice p.1.LA p.1.ln p.1.lc) := fun k => k.cell y3
      have Y4 : ∀ k : BW wr, k.val.cell? ⟨b1, o1 + i * 5 + 4, none⟩ = some (.slice p.1.DA p.1.dn p.1.dc) := fun k => k.cell y4
      have Z0 : ∀ k : BW wr, k.val.cell? ⟨b2, o2 + i * 5, none⟩ = some (.int .i64 q.1.k) := fun k => k.cell z0
      have Z1 : ∀ k : BW wr, k.val.cell? ⟨b2, o2 + i * 5 + 1, none⟩ = some (.int .i64 q.1.n) := fun k => k.cell z1
      have Z2 : ∀ k : BW wr, k.val.cell? ⟨b2, o2 + i * 5 + 2, none⟩ = some (.string q.1.t) := fun k => k.cell z2
      have Z3 : ∀ k : BW wr, k.val.cell? ⟨b2, o2 + i * 5 + 3, none⟩ = some (.slice q.1.LA q.1.ln q.1.lc) := fun k => k.cell z3
      have Z4 : ∀ k : BW wr, k.val.cell? ⟨b2, o2 + i * 5 + 4, none⟩ = some (.slice q.1.DA q.1.dn q.1.dc) := fun k => k.cell z4
      have K0 : Hid (∀ k : BW wr, Calls Tryd.prog 21 #[p.1.val, q.1.val] k.val fun e w'' => e = .returned (.bool (sameV p.2 q.2)) ∧ ∃ k : BW wr, w'' = k.val) := fun k =>
        Calls.bw (IH.out p.2 (List.mem_of_getElem? g1) q.2 p.1 q.1 k.val ((hr1.step I.bel).step k.below) ((hr2.step I.bel).step k.below))
      have hi0 : (0 : Int) ≤ (i : Int) := by omega
      have hi3 : (i : Int) < (cln : Int) := by omega
      clear hp hq hu1 hu2 hr1 hr2 g1 g2 y0 y1 y2 y3 y4 z0 z1 z2 z3 z4 I
      cases hs : sameV p.2 q.2
      · rw [hs] at K0
        go_upto_region 6 with fail
        refine wp_region_bw (by kernel_rfl) (by kernel_rfl) ?_
        repeat (go_big_quiet_step (with_reducible exact K0.out _))
        refine wpQuiet_nil ?_
        rintro _ ⟨kw, rfl⟩
        have J2 := Lib.hid (J.out.step kw.below)
        clear E0 E1 Y0 Y1 Y2 Y3 Y4 Z0 Z1 Z2 Z3 Z4 K0 hi0 hi3 q0 q1
        generalize kw.val = w2 at *
        go_wp2_with fail
        go_ret
        exact ⟨by rw [HV1.out (HB.out hs)]; rfl, J2.out.bel⟩
      · rw [hs] at K0
        go_upto_region 6 with fail
        refine wp_region_bw (by kernel_rfl) (by kernel_rfl) ?_
        repeat (go_big_quiet_step (with_reducible exact K0.out _))
        refine wpQuiet_nil ?_
        rintro _ ⟨kw, rfl⟩
        have J2 := Lib.hid (J.out.step kw.below)
        clear E0 E1 Y0 Y1 Y2 Y3 Y4 Z0 Z1 Z2 Z3 Z4 K0 hi0 hi3 q0 q1
        generalize kw.val = w2 at *
        go_wp2_with fail
        go_roundw
        case rel => exact ⟨i + 1, by omega, by go_num, HA.out hs, J2.out⟩
        case measure => simp [intOf]; omega
    · have HE : Hid (l = y.l) := by
        have := HQ.out
        rw [List.take_of_length_le (by have := HN1.out; omega), List.take_of_length_le (by have := HN2.out; omega)] at this
        exact this
      clear I
      go_wp2_with fail
      go_loopw [6] (fun v6 wr => ∃ i : Nat, i ≤ cdn ∧ v6 = .int .i64 i ∧ d.take i = y.d.take i ∧ CpInv w ⟨ck, cn, ct, cLA, cln, clc, cDA, cdn, cdc⟩ ⟨ck, cn, ct, eLA, cln, elc, eDA, cdn, edc⟩ wr) (fun v6 _ => cdn - (intOf v6).toNat)
      case atStart => exact ⟨0, Nat.zero_le _, rfl, rfl, J.out⟩
      case round =>
        clear q0 q1 J HQ hlt
        obtain ⟨i, hi1, rfl, hq, I⟩ := hrel
        have HQ := Lib.hid hq
        have J := Lib.hid I
        have q0 := I.b0.cell 4
        have q1 := I.b1.cell 4
        simp at q0 q1
        clear hq
        by_cases hlt : i < cdn
        · obtain ⟨p, hp⟩ : ∃ p, fs[i]? = some p := ⟨_, List.getElem?_eq_getElem (by have := Q1.out.sr.ln; omega)⟩
          obtain ⟨q, hq⟩ : ∃ q, gs[i]? = some q := ⟨_, List.getElem?_eq_getElem (by have := Q2.out.sr.ln; omega)⟩
          obtain ⟨b1, o1, rfl, _, hs1, hu1, hr1⟩ := Q1.out.vat hp
          obtain ⟨b2, o2, rfl, _, hs2, hu2, hr2⟩ := Q2.out.vat hq
          have g1 : d[i]? = some p.2 := by rw [← HT1.out, List.getElem?_map, hp]; rfl
          have g2 : y.d[i]? = some q.2 := by rw [← HT2.out, List.getElem?_map, hq]; rfl
          have HA : Hid (p.2 = q.2 → d.take (i + 1) = y.d.take (i + 1)) := fun h => take_eq_next HQ.out g1 g2 h
          have HB : Hid (p.2 ≠ q.2 → d ≠ y.d) := fun h => ne_of_at g1 g2 h
          obtain ⟨y0, y1, y2, y3, y4⟩ := hu1.keep (I.bel.block b1 hu1.lt)
          obtain ⟨z0, z1, z2, z3, z4⟩ := hu2.keep (I.bel.block b2 hu2.lt)
          have n0 := (I.bel.cell (p := ⟨b1, o1 + i * 6, none⟩) hu1.lt).trans hs1
          have n1 := (I.bel.cell (p := ⟨b2, o2 + i * 6, none⟩) hu2.lt).trans hs2
          have N0 : ∀ k : BW wr, k.val.cell? ⟨b1, o1 + i * 6, none⟩ = some (.string p.2.s) := fun k => k.cell n0
          have N1 : ∀ k : BW wr, k.val.cell? ⟨b2, o2 + i * 6, none⟩ = some (.string q.2.s) := fun k => k.cell n1
          have E0 : ∀ k : BW wr, k.val.cell? ⟨w.heap.size, 4, none⟩ = some (.slice (some ⟨b1, o1, none⟩) cdn cdc) := fun k => k.cell (J.out.b0.cell 4)
          have E1 : ∀ k : BW wr, k.val.cell? ⟨w.heap.size + 1, 4, none⟩ = some (.slice (some ⟨b2, o2, none⟩) cdn edc) := fun k => k.cell (J.out.b1.cell 4)
          have Y0 : ∀ k : BW wr, k.val.cell? ⟨b1, o1 + i * 6 + 1, none⟩ = some (.int .i64 p.1.k) := fun k => k.cell y0
          have Y1 : ∀ k : BW wr, k.val.cell? ⟨b1, o1 + i * 6 + 1 + 1, none⟩ = some (.int .i64 p.1.n) := fun k => k.cell y1
          have Y2 : ∀ k : BW wr, k.val.cell? ⟨b1, o1 + i * 6 + 1 + 2, none⟩ = some (.string p.1.t) := fun k => k.cell y2
          have Y3 : ∀ k : BW wr, k.val.cell? ⟨b1, o1 + i * 6 + 1 + 3, none⟩ = some (.slice p.1.LA p.1.ln p.1.lc) := fun k => k.cell y3
          have Y4 : ∀ k : BW wr, k.val.cell? ⟨b1, o1 + i * 6 + 1 + 4, none⟩ = some (.slice p.1.DA p.1.dn p.1.dc) := fun k => k.cell y4
          have Z0 : ∀ k : BW wr, k.val.cell? ⟨b2, o2 + i * 6 + 1, none⟩ = some (.int .i64 q.1.k) := fun k => k.cell z0
          have Z1 : ∀ k : BW wr, k.val.cell? ⟨b2, o2 + i * 6 + 1 + 1, none⟩ = some (.int .i64 q.1.n) := fun k => k.cell z1
          have Z2 : ∀ k : BW wr, k.val.cell? ⟨b2, o2 + i * 6 + 1 + 2, none⟩ = some (.string q.1.t) := fun k => k.cell z2
          have Z3 : ∀ k : BW wr, k.val.cell? ⟨b2, o2 + i * 6 + 1 + 3, none⟩ = some (.slice q.1.LA q.1.ln q.1.lc) := fun k => k.cell z3
          have Z4 : ∀ k : BW wr, k.val.cell? ⟨b2, o2 + i * 6 + 1 + 4, none⟩ = some (.slice q.1.DA q.1.dn q.1.dc) := fun k => k.cell z4
          have K0 : Hid (∀ k : BW wr, Calls Tryd.prog 21 #[p.1.val, q.1.val] k.val fun e w'' => e = .returned (.bool (sameV p.2.v q.2.v)) ∧ ∃ k : BW wr, w'' = k.val) := fun k =>
            Calls.bw (ID.out p.2 (List.mem_of_getElem? g1) q.2.v p.1 q.1 k.val ((hr1.step I.bel).step k.below) ((hr2.step I.bel).step k.below))
          have hi0 : (0 : Int) ≤ (i : Int) := by omega
          have hi3 : (i : Int) < (cdn : Int) := by omega
          clear hp hq hu1 hu2 hr1 hr2 g1 g2 y0 y1 y2 y3 y4 z0 z1 z2 z3 z4 I hs1 hs2 n0 n1
          cases hn : (p.2.s.toList == q.2.s.toList)
          rotate_left
          · cases hs : sameV p.2.v q.2.v
            · rw [hs] at K0
              go_upto_region 11 with fail
              refine wp_region_bw (by kernel_rfl) (by kernel_rfl) ?_
              repeat (go_big_quiet_step (with_reducible exact K0.out _))
              refine wpQuiet_nil ?_
              rintro _ ⟨kw, rfl⟩
              have J2 := Lib.hid (J.out.step kw.below)
              clear E0 E1 Y0 Y1 Y2 Y3 Y4 Z0 Z1 Z2 Z3 Z4 N0 N1 K0 hi0 hi3 q0 q1
              generalize kw.val = w2 at *
              go_wp2_with fail
              go_ret
              exact ⟨by rw [HV2.out (HB.out (fun h => sameV_ne hs (by rw [h])))]; rfl, J2.out.bel⟩
            · rw [hs] at K0
              have HF : Hid (p.2 = q.2) := Fld.ext' (bytes_eq.1 (by simpa using hn)) (sameV_eq hs)
              go_upto_region 11 with fail
              refine wp_region_bw (by kernel_rfl) (by kernel_rfl) ?_
              repeat (go_big_quiet_step (with_reducible exact K0.out _))
              refine wpQuiet_nil ?_
              rintro _ ⟨kw, rfl⟩
              have J2 := Lib.hid (J.out.step kw.below)
              clear E0 E1 Y0 Y1 Y2 Y3 Y4 Z0 Z1 Z2 Z3 Z4 N0 N1 K0 hi0 hi3 q0 q1
              generalize kw.val = w2 at *
              go_wp2_with fail
              go_roundw
              case rel => exact ⟨i + 1, by omega, by go_num, HA.out HF.out, J2.out⟩
              case measure => simp [intOf]; omega
          · have HF : Hid (p.2 ≠ q.2) := fun h => by rw [h] at hn; simp at hn
            go_upto_region 11 with fail
            refine wp_region_bw (by kernel_rfl) (by kernel_rfl) ?_
            repeat (go_big_quiet_step (with_reducible exact K0.out _))
            refine wpQuiet_nil ?_
            rintro _ ⟨kw, rfl⟩
            have J2 := Lib.hid (J.out.step kw.below)
            clear E0 E1 Y0 Y1 Y2 Y3 Y4 Z0 Z1 Z2 Z3 Z4 N0 N1 K0 hi0 hi3 q0 q1
            generalize kw.val = w2 at *
            go_wp2_with fail
            go_ret
            exact ⟨by rw [HV2.out (HB.out HF.out)]; rfl, J2.out.bel⟩
        · have HD : Hid (d = y.d) := by
            have := HQ.out
            rw [List.take_of_length_le (by have := HM1.out; omega), List.take_of_length_le (by have := HM2.out; omega)] at this
            exact this
          clear I
          go_wp2_with fail
          go_ret
          exact ⟨by rw [HV.out HE.out HD.out]; rfl, J.out.bel⟩

end Go.Proofs.YtckeccfbadlhhaaDoor
