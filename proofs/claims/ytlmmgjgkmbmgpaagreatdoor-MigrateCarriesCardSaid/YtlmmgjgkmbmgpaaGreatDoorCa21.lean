/- Parts of the proof, joined: ValRefCmp, MgRef, SortPure, SortMV, SortGV, SortTP, ValSort, RefSort, MgSame. -/
import Derived.Test.YtlmmgjgkmbmgpaaGreatDoorCa19
import Derived.Test.YtlmmgjgkmbmgpaaGreatDoorCa20
import Derived.Test.YtlmmgjgkmbmgpaaGreatDoorCa11
import Derived.Test.YtlmmgjgkmbmgpaaGreatDoorCa1
import Derived.Test.YtlmmgjgkmbmgpaaGreatDoorCa2
import Derived.Test.YtlmmgjgkmbmgpaaGreatDoorCa10
import Derived.Test.YtlmmgjgkmbmgpaaGreatDoorCa16
import Derived.Test.YtlmmgjgkmbmgpaaGreatDoorCa15
import Derived.IntWalk
/- The contract of the reference's Compare. (Printed by gen_refcmp.py out of XValCmp.) -/
namespace Go.Proofs.YtlmmgjgkmbmgpaaGreatDoor
open Go.RowKit

def RCmpAt (x : Val) : Prop := ∀ (y : Val) (c d : VC) (w : World), RW w c x → RW w d y →
    Calls Tryz.prog 77 #[c.val, d.val] w fun e w' => e = .returned (.int .i64 (cmpV x y)) ∧ Below w.heap.size w w'

set_option maxRecDepth 100000 in
set_option maxHeartbeats 4000000 in
theorem rcmp_any : ∀ x, RCmpAt x := by
  intro x
  induction x using Val.ind with
  | h k n t l d ihl ihd =>
  intro y c e w hx hy
  obtain ⟨ck, cn, ct, cLA, cln, clc, cDA, cdn, cdc⟩ := c
  obtain ⟨ek, en, et, eLA, eln, elc, eDA, edn, edc⟩ := e
  have hk : ck = k := hx.open.k
  have hn : cn = n := hx.open.n
  have ht : ct = t := hx.open.t
  subst hk hn ht
  have hk2 : ek = y.k := hy.open.k
  have hn2 : en = y.n := hy.open.n
  have ht2 : et = y.t := hy.open.t
  have I0 : Hid (CpInv w ⟨ck, cn, ct, cLA, cln, clc, cDA, cdn, cdc⟩ ⟨ek, en, et, eLA, eln, elc, eDA, edn, edc⟩ ((w.alloc (Obj.cells #[.int .i64 ck, .int .i64 cn, .string ct, .slice cLA cln clc, .slice cDA cdn cdc] 46)).alloc (Obj.cells #[.int .i64 ek, .int .i64 en, .string et, .slice eLA eln elc, .slice eDA edn edc] 46))) :=
    Lib.hid ⟨(Blk.new_at rfl).alloc _, Blk.new_at (by simp), ((Below.refl _ _).alloc (Nat.le_refl _) _).alloc (by simp) _⟩
  cases hne : (ck != ek)
  · have he : ck = ek := by simpa using hne
    have hxy : (Val.mk ck cn ct l d).k = y.k := by rw [← hk2]; exact he
    subst he
    rcases kind_ways ck with hi | ht' | hl | hd | ho
    · have HV : Hid (cmpV (.mk ck cn ct l d) y = cmpI cn en) := by rw [Hid, cmpV_int hxy hi, hn2]; rfl
      clear hx hy ihl ihd hk2 hn2 ht2 hxy
      rcases hi with rfl | rfl | rfl
      all_goals
        go_enter Tryz.func77, Tryz.ntmps77
        go_wp2_with fail
        refine (rints_any _ _ _).mono ?_
        rintro e w' ⟨rfl, rfl⟩
        go_wp2_with fail
        go_ret
        exact ⟨by rw [HV.out]; rfl, I0.out.bel⟩
    · have HV : Hid (cmpV (.mk ck cn ct l d) y = cmpB ct et) := by rw [Hid, cmpV_text hxy ht', ht2]; rfl
      have HT : Hid (ct.size ≤ reach) := hx.open.tsz
      clear hx hy ihl ihd hk2 hn2 ht2 hxy
      rcases ht' with rfl | rfl | rfl
      all_goals
        go_enter Tryz.func77, Tryz.ntmps77
        go_wp2_with fail
        refine (rtexts_any _ _ _ HT.out).mono ?_
        rintro e w' ⟨rfl, hb⟩
        go_wp2_with fail
        go_ret
        exact ⟨by rw [HV.out]; rfl, I0.out.bel.step' hb⟩
    · have HV := Lib.hid (cmpV_list hxy hl)
      obtain ⟨ps, hps, hsl⟩ := hx.sl
      obtain ⟨qs, hqs, hql⟩ := hy.sl
      simp only at hsl hql
      have hz1 := hsl.sz
      have hz2 := hql.sz
      unfold reach at hz1 hz2
      have P1 := Lib.hid hsl
      have P2 := Lib.hid hql
      have HN1 : Hid (cln = l.length) := hx.open.ln
      have HN2 : Hid (eln = y.l.length) := hy.open.ln
      have HS1 : Hid (ps.map Prod.snd = l) := hps
      have HS2 : Hid (qs.map Prod.snd = y.l) := hqs
      have IH := Lib.hid ihl
      clear hx hy ihl ihd hk2 hn2 ht2 hxy hsl hql hps hqs
      subst hl
      all_goals
        go_enter Tryz.func77, Tryz.ntmps77
        go_wp2_with fail
        go_loopw [5] (fun v5 wr => ∃ i : Nat, i ≤ cln ∧ i ≤ eln ∧ v5 = .int .i64 i ∧ cmpL l y.l = cmpL (l.drop i) (y.l.drop i) ∧ CpInv w ⟨6, cn, ct, cLA, cln, clc, cDA, cdn, cdc⟩ ⟨6, en, et, eLA, eln, elc, eDA, edn, edc⟩ wr) (fun v5 _ => cln - (intOf v5).toNat)
        case atStart => exact ⟨0, Nat.zero_le _, Nat.zero_le _, rfl, rfl, I0.out⟩
        case round =>
          obtain ⟨i, hi1, hi2, rfl, hq, I⟩ := hrel
          have HQ := Lib.hid hq
          have J := Lib.hid I
          have q0 := I.b0.cell 3
          have q1 := I.b1.cell 3
          simp at q0 q1
          clear hq
          by_cases hlt : i < cln ∧ i < eln
          · obtain ⟨hl1, hl2⟩ := hlt
            obtain ⟨p, hp⟩ : ∃ p, ps[i]? = some p := ⟨_, List.getElem?_eq_getElem (by have := P1.out.sr.ln; omega)⟩
            obtain ⟨q, hq⟩ : ∃ q, qs[i]? = some q := ⟨_, List.getElem?_eq_getElem (by have := P2.out.sr.ln; omega)⟩
            obtain ⟨b1, o1, rfl, _, hu1, hr1⟩ := P1.out.vat hp
            obtain ⟨b2, o2, rfl, _, hu2, hr2⟩ := P2.out.vat hq
            have g1 : l[i]? = some p.2 := by rw [← HS1.out, List.getElem?_map, hp]; rfl
            have g2 : y.l[i]? = some q.2 := by rw [← HS2.out, List.getElem?_map, hq]; rfl
            have HA := Lib.hid (HQ.out.trans (cmpL_at g1 g2))
            obtain ⟨y0, y1, y2, y3, y4⟩ := hu1.keep (I.bel.block b1 hu1.lt)
            obtain ⟨z0, z1, z2, z3, z4⟩ := hu2.keep (I.bel.block b2 hu2.lt)
            have E0 : ∀ q : BW wr, q.val.cell? ⟨w.heap.size, 3, none⟩ = some (.slice (some ⟨b1, o1, none⟩) cln clc) := fun q => q.cell (J.out.b0.cell 3)
            have E1 : ∀ q : BW wr, q.val.cell? ⟨w.heap.size + 1, 3, none⟩ = some (.slice (some ⟨b2, o2, none⟩) eln elc) := fun q => q.cell (J.out.b1.cell 3)
            have Y0 : ∀ k : BW wr, k.val.cell? ⟨b1, o1 + i * 5, none⟩ = some (.int .i64 p.1.k) := fun k => k.cell y0
            have Y1 : ∀ k : BW wr, k.val.cell? ⟨b1, o1 + i * 5 + 1, none⟩ = some (.int .i64 p.1.n) := fun k => k.cell y1
            have Y2 : ∀ k : BW wr, k.val.cell? ⟨b1, o1 + i * 5 + 2, none⟩ = some (.string p.1.t) := fun k => k.cell y2
            have Y3 : ∀ k : BW wr, k.val.cell? ⟨b1, o1 + i * 5 + 3, none⟩ = some (.slice p.1.LA p.1.ln p.1.lc) := fun k => k.cell y3
            have Y4 : ∀ k : BW wr, k.val.cell? ⟨b1, o1 + i * 5 + 4, none⟩ = some (.slice p.1.DA p.1.dn p.1.dc) := fun k => k.cell y4
            have Z0 : ∀ k : BW wr, k.val.cell? ⟨b2, o2 + i * 5, none⟩ = some (.int .i64 q.1.k) := fun k => k.cell z0
            have Z1 : ∀ k : BW wr, k.val.cell? ⟨b2, o2 + i * 5 + 1, none⟩ = some (.int .i64 q.1.n) := fun k => k.cell z1
            have Z2 : ∀ k : BW wr, k.val.cell? ⟨b2, o2 + i * 5 + 2, none⟩ = some (.string q.1.t) := fun k => k.cell z2
            have Z3 : ∀ k : BW wr, k.val.cell? ⟨b2, o2 + i * 5 + 3, none⟩ = some (.slice q.1.LA q.1.ln q.1.lc) := fun k => k.cell z3
            have Z4 : ∀ k : BW wr, k.val.cell? ⟨b2, o2 + i * 5 + 4, none⟩ = some (.slice q.1.DA q.1.dn q.1.dc) := fun k => k.cell z4
            have K1 : Hid (∀ k : BW wr, Calls Tryz.prog 77 #[p.1.val, q.1.val] k.val fun e w'' => e = .returned (.int .i64 (cmpV p.2 q.2)) ∧ ∃ k : BW wr, w'' = k.val) := fun k =>
              Calls.bw (IH.out p.2 (List.mem_of_getElem? g1) q.2 p.1 q.1 k.val ((hr1.step I.bel).step k.below) ((hr2.step I.bel).step k.below))
            have hi0 : (0 : Int) ≤ (i : Int) := by omega
            have hi3 : (i : Int) < (cln : Int) := by omega
            have hi4 : (i : Int) < (eln : Int) := by omega
            clear hp hq hu1 hu2 hr1 hr2 g1 g2 y0 y1 y2 y3 y4 z0 z1 z2 z3 z4 I
            go_upto_region 16 with fail
            refine wp_region_bw (by kernel_rfl) (by kernel_rfl) ?_
            repeat (go_big_quiet_step (with_reducible exact K1.out _))
            refine wpQuiet_nil ?_
            rintro _ ⟨kw, rfl⟩
            have J2 := Lib.hid (J.out.step kw.below)
            clear E0 E1 Y0 Y1 Y2 Y3 Y4 Z0 Z1 Z2 Z3 Z4 K1 hi0 hi3 hi4
            generalize kw.val = w2 at *
            cases hc : (cmpV p.2 q.2 != 0)
            · have HC : Hid (cmpL l y.l = cmpL (l.drop (i + 1)) (y.l.drop (i + 1))) := by
                have : cmpV p.2 q.2 = 0 := by simpa using hc
                rw [Hid, HA.out, if_neg (by simpa using this)]
              go_wp2_with fail
              go_roundw
              case rel => exact ⟨i + 1, by omega, by omega, by go_num, HC.out, J2.out⟩
              case measure => simp [intOf]; omega
            · have HC : Hid (cmpL l y.l = cmpV p.2 q.2) := by
                rw [Hid, HA.out, if_pos (by simpa using hc)]
              go_wp2_with fail
              go_ret
              exact ⟨by rw [HV.out]; show _ = Ending.returned (.int .i64 (cmpL l y.l)); rw [HC.out]; rfl, J2.out.bel⟩
          · have HE := Lib.hid (HQ.out.trans (cmpL_end (by have := HN1.out; omega) (by have := HN2.out; omega) (by have := HN1.out; have := HN2.out; omega)))
            clear I
            by_cases hl1 : i < cln
            all_goals
             first | have hx9 : eln ≤ i := by omega | have hx9 : cln ≤ i := by omega
             go_wp2_with fail
             refine (rints_any _ _ _).mono ?_
             rintro e w' ⟨rfl, rfl⟩
             go_wp2_with fail
             go_ret
             exact ⟨by rw [HV.out]; show _ = Ending.returned (.int .i64 (cmpL l y.l)); rw [HE.out, ← HN1.out, ← HN2.out]; rfl, J.out.bel⟩
    · have HV := Lib.hid (cmpV_doc hxy hd)
      obtain ⟨ps, hps, hsl⟩ := hx.sd
      obtain ⟨qs, hqs, hql⟩ := hy.sd
      simp only at hsl hql
      have hz1 := hsl.sz
      have hz2 := hql.sz
      unfold reach at hz1 hz2
      have P1 := Lib.hid hsl
      have P2 := Lib.hid hql
      have HN1 : Hid (cdn = d.length) := hx.open.dn
      have HN2 : Hid (edn = y.d.length) := hy.open.dn
      have HS1 : Hid (ps.map Prod.snd = d) := hps
      have HS2 : Hid (qs.map Prod.snd = y.d) := hqs
      have IH := Lib.hid ihd
      clear hx hy ihl ihd hk2 hn2 ht2 hxy hsl hql hps hqs
      subst hd
      all_goals
        go_enter Tryz.func77, Tryz.ntmps77
        go_wp2_with fail
        go_loopw [7] (fun v7 wr => ∃ i : Nat, i ≤ cdn ∧ i ≤ edn ∧ v7 = .int .i64 i ∧ cmpD d y.d = cmpD (d.drop i) (y.d.drop i) ∧ CpInv w ⟨5, cn, ct, cLA, cln, clc, cDA, cdn, cdc⟩ ⟨5, en, et, eLA, eln, elc, eDA, edn, edc⟩ wr) (fun v7 _ => cdn - (intOf v7).toNat)
        case atStart => exact ⟨0, Nat.zero_le _, Nat.zero_le _, rfl, rfl, I0.out⟩
        case round =>
          obtain ⟨i, hi1, hi2, rfl, hq, I⟩ := hrel
          have HQ := Lib.hid hq
          have J := Lib.hid I
          have q0 := I.b0.cell 4
          have q1 := I.b1.cell 4
          simp at q0 q1
          clear hq
          by_cases hlt : i < cdn ∧ i < edn
          · obtain ⟨hl1, hl2⟩ := hlt
            obtain ⟨p, hp⟩ : ∃ p, ps[i]? = some p := ⟨_, List.getElem?_eq_getElem (by have := P1.out.sr.ln; omega)⟩
            obtain ⟨q, hq⟩ : ∃ q, qs[i]? = some q := ⟨_, List.getElem?_eq_getElem (by have := P2.out.sr.ln; omega)⟩
            obtain ⟨b1, o1, rfl, _, hs1, hu1, hr1⟩ := P1.out.vat hp
            obtain ⟨b2, o2, rfl, _, hs2, hu2, hr2⟩ := P2.out.vat hq
            have g1 : d[i]? = some p.2 := by rw [← HS1.out, List.getElem?_map, hp]; rfl
            have g2 : y.d[i]? = some q.2 := by rw [← HS2.out, List.getElem?_map, hq]; rfl
            have HA := Lib.hid (HQ.out.trans (cmpD_at g1 g2))
            obtain ⟨y0, y1, y2, y3, y4⟩ := hu1.keep (I.bel.block b1 hu1.lt)
            obtain ⟨z0, z1, z2, z3, z4⟩ := hu2.keep (I.bel.block b2 hu2.lt)
            have n0 := (I.bel.cell (p := ⟨b1, o1 + i * 6, none⟩) hu1.lt).trans hs1
            have n1 := (I.bel.cell (p := ⟨b2, o2 + i * 6, none⟩) hu2.lt).trans hs2
            have N0 : ∀ k : BW wr, k.val.cell? ⟨b1, o1 + i * 6, none⟩ = some (.string p.2.s) := fun k => k.cell n0
            have N1 : ∀ k : BW wr, k.val.cell? ⟨b2, o2 + i * 6, none⟩ = some (.string q.2.s) := fun k => k.cell n1
            have E0 : ∀ q : BW wr, q.val.cell? ⟨w.heap.size, 4, none⟩ = some (.slice (some ⟨b1, o1, none⟩) cdn cdc) := fun q => q.cell (J.out.b0.cell 4)
            have E1 : ∀ q : BW wr, q.val.cell? ⟨w.heap.size + 1, 4, none⟩ = some (.slice (some ⟨b2, o2, none⟩) edn edc) := fun q => q.cell (J.out.b1.cell 4)
            have Y0 : ∀ k : BW wr, k.val.cell? ⟨b1, o1 + i * 6 + 1, none⟩ = some (.int .i64 p.1.k) := fun k => k.cell y0
            have Y1 : ∀ k : BW wr, k.val.cell? ⟨b1, o1 + i * 6 + 1 + 1, none⟩ = some (.int .i64 p.1.n) := fun k => k.cell y1
            have Y2 : ∀ k : BW wr, k.val.cell? ⟨b1, o1 + i * 6 + 1 + 2, none⟩ = some (.string p.1.t) := fun k => k.cell y2
            have Y3 : ∀ k : BW wr, k.val.cell? ⟨b1, o1 + i * 6 + 1 + 3, none⟩ = some (.slice p.1.LA p.1.ln p.1.lc) := fun k => k.cell y3
            have Y4 : ∀ k : BW wr, k.val.cell? ⟨b1, o1 + i * 6 + 1 + 4, none⟩ = some (.slice p.1.DA p.1.dn p.1.dc) := fun k => k.cell y4
            have Z0 : ∀ k : BW wr, k.val.cell? ⟨b2, o2 + i * 6 + 1, none⟩ = some (.int .i64 q.1.k) := fun k => k.cell z0
            have Z1 : ∀ k : BW wr, k.val.cell? ⟨b2, o2 + i * 6 + 1 + 1, none⟩ = some (.int .i64 q.1.n) := fun k => k.cell z1
            have Z2 : ∀ k : BW wr, k.val.cell? ⟨b2, o2 + i * 6 + 1 + 2, none⟩ = some (.string q.1.t) := fun k => k.cell z2
            have Z3 : ∀ k : BW wr, k.val.cell? ⟨b2, o2 + i * 6 + 1 + 3, none⟩ = some (.slice q.1.LA q.1.ln q.1.lc) := fun k => k.cell z3
            have Z4 : ∀ k : BW wr, k.val.cell? ⟨b2, o2 + i * 6 + 1 + 4, none⟩ = some (.slice q.1.DA q.1.dn q.1.dc) := fun k => k.cell z4
            have KB : Hid (∀ (W : World), Below w.heap.size w W → ∀ k : BW W, Calls Tryz.prog 77 #[p.1.val, q.1.val] k.val fun e w'' => e = .returned (.int .i64 (cmpV p.2.v q.2.v)) ∧ ∃ k : BW W, w'' = k.val) := fun W hW k =>
              Calls.bw (IH.out p.2 (List.mem_of_getElem? g1) q.2.v p.1 q.1 k.val ((hr1.step hW).step k.below) ((hr2.step hW).step k.below))
            have hi0 : (0 : Int) ≤ (i : Int) := by omega
            have hi3 : (i : Int) < (cdn : Int) := by omega
            have hi4 : (i : Int) < (edn : Int) := by omega
            clear hq hu1 hu2 hr1 hr2 g1 g2 y0 y1 y2 y3 y4 z0 z1 z2 z3 z4 I hs1 hs2 n0 n1
            have K2 : Hid (∀ k : BW wr, Calls Tryz.prog 86 #[.string p.2.s, .string q.2.s] k.val fun e w'' => e = .returned (.int .i64 (cmpB p.2.s q.2.s)) ∧ ∃ k : BW wr, w'' = k.val) := fun k =>
              Calls.bw (rtexts_any _ _ _ (P1.out.ns p (List.mem_of_getElem? hp)))
            clear hp
            go_upto_region 24 with fail
            refine wp_region_bw (by kernel_rfl) (by kernel_rfl) ?_
            repeat (go_big_quiet_step (with_reducible exact K2.out _))
            refine wpQuiet_nil ?_
            rintro _ ⟨kw, rfl⟩
            clear q0 q1
            cases hb : (cmpB p.2.s q.2.s != 0)
            · have hb0 : (cmpB p.2.s q.2.s == 0) = true := by simpa using hb
              have HA' : Hid (cmpD d y.d = if cmpV p.2.v q.2.v ≠ 0 then cmpV p.2.v q.2.v else cmpD (d.drop (i + 1)) (y.d.drop (i + 1))) := by
                have : cmpB p.2.s q.2.s = 0 := by simpa using hb
                rw [Hid, HA.out, if_neg (by simpa using this)]
              have J1 := Lib.hid (J.out.step kw.below)
              have E0' : ∀ q : BW kw.val, q.val.cell? ⟨w.heap.size, 4, none⟩ = some (.slice (some ⟨b1, o1, none⟩) cdn cdc) := fun q => q.cell (E0 kw)
              have E1' : ∀ q : BW kw.val, q.val.cell? ⟨w.heap.size + 1, 4, none⟩ = some (.slice (some ⟨b2, o2, none⟩) edn edc) := fun q => q.cell (E1 kw)
              have Y0' : ∀ k : BW kw.val, k.val.cell? ⟨b1, o1 + i * 6 + 1, none⟩ = some (.int .i64 p.1.k) := fun k => k.cell (Y0 kw)
              have Y1' : ∀ k : BW kw.val, k.val.cell? ⟨b1, o1 + i * 6 + 1 + 1, none⟩ = some (.int .i64 p.1.n) := fun k => k.cell (Y1 kw)
              have Y2' : ∀ k : BW kw.val, k.val.cell? ⟨b1, o1 + i * 6 + 1 + 2, none⟩ = some (.string p.1.t) := fun k => k.cell (Y2 kw)
              have Y3' : ∀ k : BW kw.val, k.val.cell? ⟨b1, o1 + i * 6 + 1 + 3, none⟩ = some (.slice p.1.LA p.1.ln p.1.lc) := fun k => k.cell (Y3 kw)
              have Y4' : ∀ k : BW kw.val, k.val.cell? ⟨b1, o1 + i * 6 + 1 + 4, none⟩ = some (.slice p.1.DA p.1.dn p.1.dc) := fun k => k.cell (Y4 kw)
              have Z0' : ∀ k : BW kw.val, k.val.cell? ⟨b2, o2 + i * 6 + 1, none⟩ = some (.int .i64 q.1.k) := fun k => k.cell (Z0 kw)
              have Z1' : ∀ k : BW kw.val, k.val.cell? ⟨b2, o2 + i * 6 + 1 + 1, none⟩ = some (.int .i64 q.1.n) := fun k => k.cell (Z1 kw)
              have Z2' : ∀ k : BW kw.val, k.val.cell? ⟨b2, o2 + i * 6 + 1 + 2, none⟩ = some (.string q.1.t) := fun k => k.cell (Z2 kw)
              have Z3' : ∀ k : BW kw.val, k.val.cell? ⟨b2, o2 + i * 6 + 1 + 3, none⟩ = some (.slice q.1.LA q.1.ln q.1.lc) := fun k => k.cell (Z3 kw)
              have Z4' : ∀ k : BW kw.val, k.val.cell? ⟨b2, o2 + i * 6 + 1 + 4, none⟩ = some (.slice q.1.DA q.1.dn q.1.dc) := fun k => k.cell (Z4 kw)
              have K1' : Hid (∀ k : BW kw.val, Calls Tryz.prog 77 #[p.1.val, q.1.val] k.val fun e w'' => e = .returned (.int .i64 (cmpV p.2.v q.2.v)) ∧ ∃ k : BW kw.val, w'' = k.val) := fun k =>
                KB.out kw.val (J1.out.bel) k
              clear E0 E1 Y0 Y1 Y2 Y3 Y4 Z0 Z1 Z2 Z3 Z4 N0 N1 K2
              generalize kw.val = w2 at *
              go_upto_region 26 with fail
              refine wp_region_bw (by kernel_rfl) (by kernel_rfl) ?_
              repeat (go_big_quiet_step (with_reducible exact K1'.out _))
              refine wpQuiet_nil ?_
              rintro _ ⟨kv, rfl⟩
              have J2 := Lib.hid (J1.out.step kv.below)
              clear E0' E1' Y0' Y1' Y2' Y3' Y4' Z0' Z1' Z2' Z3' Z4' K1' hi0 hi3 hi4
              generalize kv.val = w3 at *
              cases hc : (cmpV p.2.v q.2.v != 0)
              · have HC : Hid (cmpD d y.d = cmpD (d.drop (i + 1)) (y.d.drop (i + 1))) := by
                  have : cmpV p.2.v q.2.v = 0 := by simpa using hc
                  rw [Hid, HA'.out, if_neg (by simpa using this)]
                go_wp2_with fail
                go_roundw
                case rel => exact ⟨i + 1, by omega, by omega, by go_num, HC.out, J2.out⟩
                case measure => simp [intOf]; omega
              · have HC : Hid (cmpD d y.d = cmpV p.2.v q.2.v) := by
                  rw [Hid, HA'.out, if_pos (by simpa using hc)]
                go_wp2_with fail
                go_ret
                exact ⟨by rw [HV.out]; show _ = Ending.returned (.int .i64 (cmpD d y.d)); rw [HC.out]; rfl, J2.out.bel⟩
            · have hb0 : (cmpB p.2.s q.2.s == 0) = false := by simpa using hb
              have HC : Hid (cmpD d y.d = cmpB p.2.s q.2.s) := by
                rw [Hid, HA.out, if_pos (by simpa using hb)]
              have J2 := Lib.hid (J.out.step kw.below)
              clear E0 E1 Y0 Y1 Y2 Y3 Y4 Z0 Z1 Z2 Z3 Z4 N0 N1 K2 hi0 hi3 hi4
              generalize kw.val = w2 at *
              go_wp2_with fail
              go_ret
              exact ⟨by rw [HV.out]; show _ = Ending.returned (.int .i64 (cmpD d y.d)); rw [HC.out]; rfl, J2.out.bel⟩
          · have HE := Lib.hid (HQ.out.trans (cmpD_end (by have := HN1.out; omega) (by have := HN2.out; omega) (by have := HN1.out; have := HN2.out; omega)))
            clear I
            by_cases hl1 : i < cdn
            all_goals
             first | have hx9 : edn ≤ i := by omega | have hx9 : cdn ≤ i := by omega
             go_wp2_with fail
             refine (rints_any _ _ _).mono ?_
             rintro e w' ⟨rfl, rfl⟩
             go_wp2_with fail
             go_ret
             exact ⟨by rw [HV.out]; show _ = Ending.returned (.int .i64 (cmpD d y.d)); rw [HE.out, ← HN1.out, ← HN2.out]; rfl, J.out.bel⟩
    · obtain ⟨h3, h9, h10, h4, h7, h8, h6, h5⟩ := ho
      have HV := Lib.hid (cmpV_other hxy h3 h9 h10 h4 h7 h8 h6 h5)
      clear hx hy ihl ihd hk2 hn2 ht2 hxy
      have e3 : (ck == 3) = false := by simpa using h3
      have e9 : (ck == 9) = false := by simpa using h9
      have e10 : (ck == 10) = false := by simpa using h10
      have e4 : (ck == 4) = false := by simpa using h4
      have e7 : (ck == 7) = false := by simpa using h7
      have e8 : (ck == 8) = false := by simpa using h8
      have e6 : (ck == 6) = false := by simpa using h6
      have e5 : (ck == 5) = false := by simpa using h5
      clear h3 h9 h10 h4 h7 h8 h6 h5
      go_enter Tryz.func77, Tryz.ntmps77
      go_wp2_with fail
      go_ret
      exact ⟨by rw [HV.out]; rfl, I0.out.bel⟩
  · have HV : Hid (cmpV (.mk ck cn ct l d) y = cmpI ck ek) := by
      have : ck ≠ ek := by simpa using hne
      rw [Hid, cmpV_kind (by rw [← hk2]; exact this), ← hk2]
      rfl
    clear hx hy ihl ihd hk2 hn2 ht2
    go_enter Tryz.func77, Tryz.ntmps77
    go_wp2_with fail
    refine (rints_any _ _ _).mono ?_
    rintro e w' ⟨rfl, rfl⟩
    go_wp2_with fail
    go_ret
    exact ⟨by rw [HV.out]; rfl, I0.out.bel⟩

end Go.Proofs.YtlmmgjgkmbmgpaaGreatDoor



/- The reference's In, Equal, and the law's id. -/
namespace Go.Proofs.YtlmmgjgkmbmgpaaGreatDoor
open Go.RowKit
set_option linter.unusedSimpArgs false

theorem bl_cmp : ∀ l m : List UInt8, Op.bytesLess l m = true ↔ Lib.compareBytes l m < 0
  | [], [] => by decide
  | [], b :: m => by simp [Op.bytesLess, Lib.compareBytes]
  | a :: l, [] => by simp [Op.bytesLess, Lib.compareBytes]
  | a :: l, b :: m => by
    have ih := bl_cmp l m
    rw [bl_cons, cmpBy_at]
    by_cases h : (a.toNat : Int) = (b.toNat : Int)
    · rw [if_pos h, ← ih]
      have h2 : a = b := UInt8.toNat_inj.1 (by omega)
      constructor
      · rintro (h3 | h3)
        · omega
        · exact h3.2
      · intro h3; exact .inr ⟨h2, h3⟩
    · rw [if_neg h]
      simp only [cmpI, Lib.compareInt]
      constructor
      · rintro (h3 | h3)
        · rw [if_pos (by omega)]; omega
        · exact absurd (congrArg (fun x : UInt8 => (x.toNat : Int)) h3.1) h
      · intro h3
        by_cases h4 : a.toNat < b.toNat
        · exact .inl h4
        · exfalso
          rw [if_neg (by omega)] at h3
          split at h3 <;> omega
theorem bl_cmpB (a b : ByteArray) : Op.bytesLess a.toList b.toList = decide (cmpB a b < 0) := by
  have h := bl_cmp a.data.toList b.data.toList
  rw [Go.ByteArray.toList_eq, Go.ByteArray.toList_eq]
  show _ = decide (Lib.compareBytes a.data.toList b.data.toList < 0)
  rw [Bool.eq_iff_iff, h, decide_eq_true_iff]

theorem keyR_size (l : List Val) : (keyR l).1.size ≤ 8500000 * l.length := by
  unfold keyR
  split
  · rename_i h
    rw [strOfNums_size]
    exact encAll_len h
  · exact Nat.zero_le _
theorem rencR_size {ks : List Od} {ha : Bool} {x : Val} (h8 : ks.length ≤ 8) : (rencR ks ha x).1.size ≤ 68000000 := by
  cases hv : valsR ks x with
  | none => rw [rencR_none hv]; exact Nat.zero_le _
  | some ys =>
    have hl := valsR_len hv
    unfold rencR
    rw [hv]
    simp only
    split
    · have := keyR_size [intH (by assumption)]
      simp only [List.length_singleton] at this
      omega
    · have := keyR_size ys
      have : 8500000 * ys.length ≤ 8500000 * 8 := Nat.mul_le_mul_left _ (by omega)
      omega

set_option maxRecDepth 100000 in
set_option maxHeartbeats 1000000 in
theorem rin48_any (lo hi key : ByteArray) (w : World) (h1 : lo.size ≤ reach) (h2 : key.size ≤ reach) : Calls Tryz.prog 47 #[.agg #[.string lo, .string hi], .string key] w fun e w' => e = .returned (.bool (inB key (spanC lo hi))) ∧ Below w.heap.size w w' := by
  have B0 : Hid (Blk (w.alloc (Obj.cells #[.string lo, .string hi] 111)) w.heap.size 111 #[.string lo, .string hi]) := Blk.new_at rfl
  have BE : Hid (Below w.heap.size w (w.alloc (Obj.cells #[.string lo, .string hi] 111))) := (Below.refl _ _).alloc (Nat.le_refl _) _
  have HT1 := Lib.hid fun (wr : World) => rtexts_any lo key wr h1
  have HT2 := Lib.hid fun (wr : World) => rtexts_any key hi wr h2
  have HA : Hid (inB key (spanC lo hi) = (!decide (cmpB key lo < 0) && (hi.toList == [] || decide (cmpB key hi < 0)))) := by
    rw [Hid, ← bl_cmpB, ← bl_cmpB]; rfl
  have HB := Lib.hid (cmpB_anti lo key)
  clear h1 h2
  go_enter Tryz.func47, Tryz.ntmps47
  go_upto_region 1 with fail
  change Code.wp _ _ _ _ (w.alloc (Obj.cells #[.string lo, .string hi] 111))
  generalize w.alloc (Obj.cells #[.string lo, .string hi] 111) = wa at *
  have q0 : wa.cell? ⟨w.heap.size, 0, none⟩ = some (.string lo) := B0.out.cell 0
  go_wp2_with fail
  refine (HT1.out _).mono ?_
  rintro e w1 ⟨rfl, hb⟩
  obtain ⟨c1, hc1⟩ : ∃ c, cmpB lo key = c := ⟨_, rfl⟩
  rw [hc1] at HB ⊢
  clear hc1
  have C0 := Lib.hid (B0.out.step hb)
  have CE := Lib.hid (BE.out.step' hb)
  clear hb q0 B0 BE HT1
  have q1 : w1.cell? ⟨w.heap.size, 1, none⟩ = some (.string hi) := C0.out.cell 1
  by_cases hc : c1 ≤ 0
  · cases h2 : (hi.toList == [])
    · go_wp2_with fail
      refine (HT2.out _).mono ?_
      rintro e w2 ⟨rfl, hb⟩
      have CE2 := Lib.hid (CE.out.step' hb)
      have HV : Hid (inB key (spanC lo hi) = decide (cmpB key hi < 0)) := by
        rw [Hid, HA.out, HB.out, h2, decide_eq_false (by omega)]; simp
      generalize cmpB key hi = c2 at HV ⊢
      clear hb h2
      by_cases hd : c2 < 0
      · go_wp2_with fail
        go_ret
        exact ⟨by rw [HV.out, decide_eq_true hd]; rfl, CE2.out⟩
      · go_wp2_with fail
        go_ret
        exact ⟨by rw [HV.out]; rfl, CE2.out⟩
    · have HV : Hid (inB key (spanC lo hi) = true) := by
        rw [Hid, HA.out, HB.out, h2, decide_eq_false (by omega)]; simp
      go_wp2_with fail
      go_ret
      exact ⟨by rw [HV.out]; rfl, CE.out⟩
  · have HV : Hid (inB key (spanC lo hi) = false) := by
      rw [Hid, HA.out, HB.out, decide_eq_true (by omega)]; simp
    go_wp2_with fail
    go_ret
    exact ⟨by rw [HV.out]; rfl, CE.out⟩

set_option maxRecDepth 100000 in
set_option maxHeartbeats 1000000 in
theorem rin_any (M : Mv) (ma : MA) (R : Ro) (a : RA) (x : Val) (c : VC) (w : World) (h : RR w a R) (hx : RW w c x) (h8 : R.ks.length ≤ 8) (hk : R.ha = true → R.ks.length = 1) (hlo : M.lo.size ≤ reach) :
    Calls Tryz.prog 16 #[mval ma M, rval a R, c.val] w fun e w' => e = .returned (.bool (insD R M.lo M.hi x)) ∧ Below w.heap.size w w' := by
  obtain ⟨KA, kn, kc, CA, cn, cc⟩ := a
  have HE := Lib.hid fun (wr : World) (hb : Below w.heap.size w wr) => rsenc_any R.ks R.ha KA kn kc x c wr (h.ks.step hb) (hx.step hb) h8
  have HEQ := Lib.hid (enc_same (x := x) hk)
  have HSZ : Hid ((rencR R.ks R.ha x).1.size ≤ 68000000) := rencR_size h8
  clear h hx
  obtain ⟨⟨K1, K2⟩, hK⟩ : ∃ K, rencR R.ks R.ha x = K := ⟨_, rfl⟩
  rw [hK] at HE HEQ HSZ
  have HK : Hid (encR R.ks R.ha x = (K1, K2)) := HEQ.out.symm
  clear hK HEQ
  obtain ⟨wa, hwa⟩ : ∃ wa, (((w.alloc (Obj.cells (marr ma M) 37)).alloc (Obj.cells (rarr ⟨KA, kn, kc, CA, cn, cc⟩ R) 27)).alloc (Obj.cells c.arr 46)) = wa := ⟨_, rfl⟩
  have BM : Hid (Blk wa w.heap.size 37 (marr ma M)) := by rw [← hwa]; exact ((Blk.new_at rfl).alloc _).alloc _
  have B0 : Hid (Blk wa (w.heap.size + 1) 27 (rarr ⟨KA, kn, kc, CA, cn, cc⟩ R)) := by rw [← hwa]; exact (Blk.new_at (by simp)).alloc _
  have B1 : Hid (Blk wa (w.heap.size + 2) 46 c.arr) := by rw [← hwa]; exact Blk.new_at (by simp)
  have BE : Hid (Below w.heap.size w wa) := by rw [← hwa]; exact (((Below.refl _ _).alloc (Nat.le_refl _) _).alloc (by simp) _).alloc (by simp; omega) _
  have HWA := Lib.hid hwa
  clear hwa
  go_enter Tryz.func16, Tryz.ntmps16
  go_upto_region 1 with fail
  change Code.wp _ _ _ _ (((w.alloc (Obj.cells (marr ma M) 37)).alloc (Obj.cells (rarr ⟨KA, kn, kc, CA, cn, cc⟩ R) 27)).alloc (Obj.cells c.arr 46))
  rw [HWA.out]
  clear HWA
  obtain ⟨q0, q1, q2, q3, q4, q5, qz⟩ := blk_ro B0.out
  simp only at q1 q5
  obtain ⟨a0, a1, a2, a3, a4⟩ := VAt.of_blk B1.out
  simp only [Nat.zero_add] at a0 a1 a2 a3 a4
  go_wp2_with fail
  refine (HE.out wa BE.out).mono ?_
  rintro e w1 ⟨rfl, hb⟩
  have CE := Lib.hid (BE.out.step' hb)
  have CM := Lib.hid (BM.out.step hb)
  clear hb BE B0 B1 BM HE q0 q1 q2 q3 q4 q5 qz a0 a1 a2 a3 a4
  obtain ⟨m0, m1, m2, m3, m4, m5, m6, m7⟩ := blk_mv CM.out
  by_cases hk : K2 = 0
  rotate_left
  · have hkb : (K2 == 0) = false := by simpa using hk
    have HF := Lib.hid (insD_no (lo := M.lo) (hi := M.hi) HK.out hk)
    clear hk
    go_wp2_with fail
    go_ret
    exact ⟨by rw [HF.out]; rfl, CE.out⟩
  subst hk
  have HI := Lib.hid (insD_yes (lo := M.lo) (hi := M.hi) HK.out)
  have HC := Lib.hid (rin48_any M.lo M.hi K1 w1 hlo (by have := HSZ.out; unfold reach; omega))
  go_wp2_with fail
  refine HC.out.mono ?_
  rintro e w2 ⟨rfl, hb⟩
  have CE2 := Lib.hid (CE.out.step' hb)
  clear hb
  go_wp2_with fail
  go_ret
  exact ⟨by rw [HI.out]; rfl, CE2.out⟩

theorem requal_any (x y : Val) (c d : VC) (w : World) (h : RW w c x) (h' : RW w d y) : Calls Tryz.prog 35 #[c.val, d.val] w fun e w' => e = .returned (.bool (cmpV x y == 0)) ∧ Below w.heap.size w w' := by
  have H := Lib.hid h
  have H' := Lib.hid h'
  clear h h'
  go_enter Tryz.func35, Tryz.ntmps35
  go_wp2_with fail
  refine (rcmp_any x y c d _ ((H.out.alloc _).alloc _) ((H'.out.alloc _).alloc _)).mono ?_
  rintro e w1 ⟨rfl, hb⟩
  go_wp2_with fail
  go_ret
  exact ⟨rfl, (((Below.refl _ _).alloc (Nat.le_refl _) _).alloc (by simp) _).step' hb⟩

/-- the identifier of a document -/
def IdOk (F : Nat → Prop) (x : Val) (w : World) (e : Ending) (w' : World) : Prop := ∃ c : VC, e = .returned c.val ∧ RV F w' c (idV x) ∧ Below w.heap.size w w'
set_option maxRecDepth 100000 in
set_option maxHeartbeats 1000000 in
theorem id51_any {F : Nat → Prop} (x : Val) (c : VC) (w : World) (h : RV F w c x) : Calls Tryz.prog 36 #[c.val] w (IdOk F x w) := by
  have H := Lib.hid h
  clear h
  obtain ⟨wa, hwa⟩ : ∃ wa, (w.alloc (Obj.cells c.arr 46)).alloc (Obj.cells VC.zero.arr 46) = wa := ⟨_, rfl⟩
  have B0 : Hid (Blk wa w.heap.size 46 c.arr) := by rw [← hwa]; exact (Blk.new_at rfl).alloc _
  have B1 : Hid (Blk wa (w.heap.size + 1) 46 VC.zero.arr) := by rw [← hwa]; exact Blk.new_at (by simp)
  have BE : Hid (Below w.heap.size w wa) := by rw [← hwa]; exact ((Below.refl _ _).alloc (Nat.le_refl _) _).alloc (by simp) _
  have HWA := Lib.hid hwa
  clear hwa
  go_enter Tryz.func36, Tryz.ntmps36
  go_upto_region 1 with fail
  change Code.wp _ _ _ _ ((w.alloc (Obj.cells c.arr 46)).alloc (Obj.cells VC.zero.arr 46))
  rw [HWA.out]
  clear HWA
  obtain ⟨a0, a1, a2, a3, a4⟩ := VAt.of_blk B0.out
  simp only [Nat.zero_add] at a0 a1 a2 a3 a4
  have HG := Lib.hid (rget_fp (F := fun b => F b ∧ b < w.heap.size) x c idB wa (H.out.lt.step BE.out))
  go_wp2_with fail
  refine HG.out.mono ?_
  rintro e w1 ⟨d, rfl, hr, hb⟩
  have RD := Lib.hid hr
  have C1 := Lib.hid (B1.out.step hb)
  have CE := Lib.hid (BE.out.step' hb)
  clear hb hr HG a0 a1 a2 a3 a4 B0 B1 BE
  go_upto_region 2 with fail
  change Code.wp _ _ _ _ (w1.alloc (Obj.cells d.arr 46))
  have D3 : Hid (Blk (w1.alloc (Obj.cells d.arr 46)) w1.heap.size 46 d.arr) := Blk.new_at rfl
  have D1 := Lib.hid (C1.out.alloc (Obj.cells d.arr 46))
  have DE := Lib.hid (CE.out.alloc CE.out.size (Obj.cells d.arr 46))
  have DR : Hid (RV (fun b => F b ∧ b < w.heap.size) (w1.alloc (Obj.cells d.arr 46)) d (idV x)) := RD.out.alloc _
  clear C1 CE RD
  generalize w1.alloc (Obj.cells d.arr 46) = w2 at *
  generalize w1.heap.size = g3 at *
  obtain ⟨a0, a1, a2, a3, a4⟩ := VAt.of_blk D3.out
  obtain ⟨b0, b1, b2, b3, b4⟩ := VAt.of_blk D1.out
  have z := D1.out.frozen
  simp only [Nat.zero_add] at a0 a1 a2 a3 a4 b0 b1 b2 b3 b4
  have E1 := Lib.hid (D1.out.putV d)
  have EE := Lib.hid (below_setV DE.out (by omega : w.heap.size ≤ w.heap.size + 1) 0 d)
  have ER : Hid (RV F (setV w2 (w.heap.size + 1) 0 d) d (idV x)) := DR.out.keepG fun b hb _ => ⟨hb.1, heap_setV (by omega)⟩
  go_wp2_with fail
  exact bodyPost_ret (results_val rfl _ (w.heap.size + 1) 0 rfl (setV w2 (w.heap.size + 1) 0 d) d (VAt.of_blk E1.out)) rfl ⟨d, rfl, ER.out, EE.out⟩

end Go.Proofs.YtlmmgjgkmbmgpaaGreatDoor



/- Stable sorting in plain words: elements bear their place; the sorted list is the one in which all pairs stand in order. -/
namespace Go.Proofs.YtlmmgjgkmbmgpaaGreatDoor

/-- a comparison that is a total order up to equality -/
structure Ordered {α : Type} (cm : α → α → Int) : Prop where
  anti : ∀ x y, cm y x = -cm x y
  tr : ∀ x y z, TR (cm x y) (cm y z) (cm x z)

section
variable {α : Type} (cm : α → α → Int)

/-- the order of tagged elements -/
def RT (x y : α × Nat) : Prop := cm x.1 y.1 < 0 ∨ cm x.1 y.1 = 0 ∧ x.2 < y.2
variable {cm}
theorem RT.trans (H : Ordered cm) {x y z : α × Nat} (h1 : RT cm x y) (h2 : RT cm y z) : RT cm x z := by
  unfold RT at *
  have := H.tr x.1 y.1 z.1 (by omega) (by omega)
  omega
theorem RT.asymm (H : Ordered cm) {x y : α × Nat} (h1 : RT cm x y) (h2 : RT cm y x) : False := by
  unfold RT at *
  have := H.anti x.1 y.1
  omega
/-- two sorted lists with the same elements are the same -/
theorem sorted_unique (H : Ordered cm) : ∀ {l m : List (α × Nat)}, l.Pairwise (RT cm) → m.Pairwise (RT cm) → l.Perm m → l = m := by
  intro l
  induction l with
  | nil => intro m _ _ hp; exact hp.nil_eq
  | cons x r ih =>
    intro m hl hm hp
    cases m with
    | nil => exact absurd hp.symm.nil_eq (by simp)
    | cons y s =>
      have hxy : x = y := by
        have h1 : x ∈ y :: s := hp.subset (by simp)
        have h2 : y ∈ x :: r := hp.symm.subset (by simp)
        rcases List.mem_cons.1 h1 with h1 | h1
        · exact h1
        · rcases List.mem_cons.1 h2 with h2 | h2
          · exact h2.symm
          · exact (RT.asymm H (List.rel_of_pairwise_cons hl h2) (List.rel_of_pairwise_cons hm h1)).elim
      subst hxy
      rw [ih (List.Pairwise.of_cons hl) (List.Pairwise.of_cons hm) (List.Perm.cons_inv hp)]

/-- the tags of a list rise -/
def Tagged (l : List (α × Nat)) : Prop := l.Pairwise fun x y => x.2 < y.2
/-- S is l sorted -/
structure Sorted (cm : α → α → Int) (l S : List (α × Nat)) : Prop where
  perm : S.Perm l
  ord : S.Pairwise (RT cm)
theorem Sorted.nil : Sorted cm ([] : List (α × Nat)) [] := ⟨.nil, .nil⟩
/-- positions as tags -/
def tagFrom : Nat → List α → List (α × Nat)
  | _, [] => []
  | n, x :: r => (x, n) :: tagFrom (n + 1) r
theorem tagFrom_map (l : List α) : ∀ n, (tagFrom n l).map Prod.fst = l := by
  induction l with
  | nil => intro n; rfl
  | cons x r ih => intro n; simp [tagFrom, ih]
theorem tagFrom_ge (l : List α) : ∀ n, ∀ y ∈ tagFrom n l, n ≤ y.2 := by
  induction l with
  | nil => intro n y hy; simp [tagFrom] at hy
  | cons x r ih =>
    intro n y hy
    simp only [tagFrom, List.mem_cons] at hy
    rcases hy with rfl | hy
    · exact Nat.le_refl _
    · have := ih (n + 1) y hy; omega
theorem tagFrom_tagged (l : List α) : ∀ n, Tagged (tagFrom n l) := by
  induction l with
  | nil => intro n; simp [tagFrom, Tagged]
  | cons x r ih =>
    intro n
    simp only [tagFrom, Tagged, List.pairwise_cons]
    exact ⟨fun y hy => by have := tagFrom_ge r (n + 1) y hy; show n < y.2; omega, ih (n + 1)⟩
theorem tagFrom_length (l : List α) : ∀ n, (tagFrom n l).length = l.length := by
  induction l with
  | nil => intro n; rfl
  | cons x r ih => intro n; simp [tagFrom, ih]
end

end Go.Proofs.YtlmmgjgkmbmgpaaGreatDoor



/- The library's symMerge at one element type. (Printed by gen_sort3.py V.) -/
namespace Go.Proofs.YtlmmgjgkmbmgpaaGreatDoor
open Go.RowKit

section
variable {α : Type} {cm : α → α → Int}
theorem RT.le {x y : α × Nat} (h : RT cm x y) : cm x.1 y.1 ≤ 0 := by unfold RT at h; omega
theorem cm_lt_le (H : Ordered cm) {x y z : α} (h1 : cm x y < 0) (h2 : cm y z ≤ 0) : cm x z < 0 := by
  have := H.tr x y z (by omega) h2
  omega
/-- elements of a sorted list, by their places -/
theorem pw_at {R : α × Nat → α × Nat → Prop} {l : List (α × Nat)} (h : l.Pairwise R) {i j : Nat} {x y : α × Nat} (hij : i < j) (hx : l[i]? = some x) (hy : l[j]? = some y) : R x y := by
  obtain ⟨hi, rfl⟩ := List.getElem?_eq_some_iff.1 hx
  obtain ⟨hj, rfl⟩ := List.getElem?_eq_some_iff.1 hy
  exact List.pairwise_iff_getElem.1 h i j hi hj hij
end
end Go.Proofs.YtlmmgjgkmbmgpaaGreatDoor



/- The library's symMerge at one element type: every case. (Printed by gen_sort4.py V.) -/
namespace Go.Proofs.YtlmmgjgkmbmgpaaGreatDoor
open Go.RowKit

section
variable {α : Type} {cm : α → α → Int}
theorem at_le (H : Ordered cm) {l : List (α × Nat)} (h : l.Pairwise (RT cm)) {i j : Nat} {x y : α × Nat} (hij : i ≤ j) (hx : l[i]? = some x) (hy : l[j]? = some y) : cm x.1 y.1 ≤ 0 := by
  by_cases e : i = j
  · subst e
    rw [hx] at hy
    cases hy
    have := H.anti x.1 x.1
    omega
  · exact RT.le (pw_at h (by omega) hx hy)
end

end Go.Proofs.YtlmmgjgkmbmgpaaGreatDoor



/- Lists in blocks: plain. -/
namespace Go.Proofs.YtlmmgjgkmbmgpaaGreatDoor

section
variable {α : Type}
def blk (bs q : Nat) (L : List α) : List α := (L.drop (q * bs)).take bs
variable {cm : α → α → Int}
end

end Go.Proofs.YtlmmgjgkmbmgpaaGreatDoor



/- The contract of value.Sort for short lists. -/
namespace Go.Proofs.YtlmmgjgkmbmgpaaGreatDoor
open Go.RowKit

theorem ordV : Ordered (fun p q : PV => cmpV p.2 q.2) := ⟨fun _ _ => cmpV_anti _ _, fun _ _ _ => cmpV_tr _ _ _⟩
theorem ordVal : Ordered cmpV := ⟨fun _ _ => cmpV_anti _ _, fun _ _ _ => cmpV_tr _ _ _⟩
/-- m is l, sorted stably -/
def StV (l m : List Val) : Prop := ∃ S, Sorted cmpV (tagFrom 0 l) S ∧ S.map Prod.fst = m
theorem StV.unique {l m m' : List Val} (h : StV l m) (h' : StV l m') : m = m' := by
  obtain ⟨S, h1, rfl⟩ := h
  obtain ⟨S', h1', rfl⟩ := h'
  rw [sorted_unique ordVal h1.ord h1'.ord (h1.perm.trans h1'.perm.symm)]

theorem tag_val (l : List PV) : ∀ n, (tagFrom n l).map (fun p => (p.1.2, p.2)) = tagFrom n (l.map Prod.snd) := by
  induction l with
  | nil => intro n; rfl
  | cons x r ih => intro n; simp [tagFrom, ih]
theorem Sorted.toVal {L S : List (PV × Nat)} (h : Sorted (fun p q : PV => cmpV p.2 q.2) L S) : Sorted cmpV (L.map fun p => (p.1.2, p.2)) (S.map fun p => (p.1.2, p.2)) := by
  refine ⟨h.perm.map _, ?_⟩
  rw [List.pairwise_map]
  exact h.ord

end Go.Proofs.YtlmmgjgkmbmgpaaGreatDoor



/- The reference's Sort. -/
namespace Go.Proofs.YtlmmgjgkmbmgpaaGreatDoor
open Go.RowKit

theorem insert_sorted {α : Type} {cm : α → α → Int} (H : Ordered cm) {L S1 S2 : List (α × Nat)} {x : α × Nat} (hS : Sorted cm L (S1 ++ S2)) (ht : ∀ s ∈ L, s.2 < x.2) (h1 : ∀ s ∈ S1, cm s.1 x.1 ≤ 0) (h2 : ∀ s, S2[0]? = some s → ¬ cm s.1 x.1 ≤ 0) : Sorted cm (L ++ [x]) (S1 ++ x :: S2) := by
  refine ⟨List.perm_middle.trans ((List.Perm.cons x hS.perm).trans (List.perm_append_singleton x L).symm), ?_⟩
  have hp := List.pairwise_append.1 hS.ord
  refine List.pairwise_append.2 ⟨hp.1, List.pairwise_cons.2 ⟨fun s hs => ?_, hp.2.1⟩, fun s hs z hz => ?_⟩
  · obtain ⟨k, hk⟩ := List.getElem?_of_mem hs
    obtain ⟨s0, h0⟩ : ∃ s0, S2[0]? = some s0 := ⟨_, List.getElem?_eq_getElem (by have := (List.getElem?_eq_some_iff.1 hk).1; omega)⟩
    have q1 := h2 s0 h0
    have q2 := H.anti s0.1 x.1
    have q3 := at_le H hp.2.1 (Nat.zero_le k) h0 hk
    exact .inl (cm_lt_le H (y := s0.1) (by omega) q3)
  · rcases List.mem_cons.1 hz with rfl | hz
    · have q1 := h1 s hs
      have q2 := ht s (hS.perm.mem_iff.1 (by simp [hs]))
      unfold RT
      omega
    · exact hp.2.2 s hs z hz

theorem own_less {w : World} {base base' : Nat} {e : TypeId} {size n : Nat} {v : Value} {xs : List Value} (h : w.ownsRow base e size v n xs) (hb : base' ≤ base) : w.ownsRow base' e size v n xs := by
  refine ⟨h.1, ?_⟩
  rcases h.2 with h2 | ⟨g, cap, cur, hv, hg, hr⟩
  · exact .inl h2
  · exact .inr ⟨g, cap, cur, hv, by omega, hr⟩

/-- the rounds of the reference's Sort -/
structure RsInv (w : World) (ps : List PV) (i : Nat) (S : List (PV × Nat)) (v : Value) (wr : World) : Prop where
  own : wr.ownsRow w.heap.size 46 5 v i (flat recV (S.map Prod.fst))
  so : Sorted (fun p q : PV => cmpV p.2 q.2) ((tagFrom 0 ps).take i) S
  bel : Below w.heap.size w wr
  z : i = 0 → v = .slice none 0 0
theorem RsInv.step {w wr w' : World} {ps : List PV} {i : Nat} {S : List (PV × Nat)} {v : Value} (h : RsInv w ps i S v wr) (hb : Below wr.heap.size wr w') : RsInv w ps i S v w' := ⟨own_step h.own hb, h.so, h.bel.step' hb, h.z⟩

theorem RsInv.at {w wr : World} {ps : List PV} {i : Nat} {S : List (PV × Nat)} {B : Option Addr} {cb : Nat} (h : RsInv w ps i S (.slice B i cb) wr) {k : Nat} {s : PV × Nat} (hs : S[k]? = some s) : ∃ g, B = some ⟨g, 0, none⟩ ∧ g < wr.heap.size ∧ VAt wr g (k * 5) s.1.1 := by
  have hl : (S.map Prod.fst).length = i := by
    have := flat_length recV_length (S.map Prod.fst)
    rw [h.own.1] at this
    omega
  have hk := (List.getElem?_eq_some_iff.1 hs).1
  rcases h.own.2 with ⟨h1, h2⟩ | ⟨g, cap, cur, hv, _, hh, hnc, _⟩
  · simp at hl; omega
  · cases hv
    refine ⟨g, rfl, own_lt h.own rfl, vat_of fun j v hj => ?_⟩
    have := h.own.cells (g := g) rfl (k * 5 + j) v (flat_get recV_length (by rw [List.getElem?_map, hs]; rfl) hj)
    rw [addr_add, Nat.zero_add] at this
    exact this
/-- the row 'next' of one round -/
structure NxInv (wx : World) (v : Value) (n : Nat) (xs : List PV) (wr : World) : Prop where
  own : wr.ownsRow wx.heap.size 46 5 v n (flat recV xs)
  bel : Below wx.heap.size wx wr
theorem NxInv.next {wx : World} {v v' : Value} {n m n' : Nat} {xs ys : List PV} {wr w' : World} {news : List Value} (h : NxInv wx v n xs wr) (hn : news = flat recV ys) (hn' : n' = m) (ho : w'.ownsRow wx.heap.size 46 5 v' m (flat recV xs ++ news)) (hg : wr.grownBy w' v.ownBlock) : NxInv wx v' n' (xs ++ ys) w' :=
  ⟨by rw [flat_append, ← hn, hn']; exact ho, h.bel.grown hg h.bel.size (fun q hq => own_ge h.own q hq)⟩
theorem NxInv.done {w wx : World} {ps : List PV} {v0 v : Value} {i m : Nat} {S S' : List (PV × Nat)} {xs : List PV} {wr : World} (h : NxInv wx v m xs wr) (I : RsInv w ps i S v0 wx) (hm : m = i + 1) (hx : xs = S'.map Prod.fst) (hs : Sorted (fun p q : PV => cmpV p.2 q.2) ((tagFrom 0 ps).take (i + 1)) S') : RsInv w ps (i + 1) S' v wr := by
  subst hm hx
  exact ⟨own_less h.own I.bel.size, hs, I.bel.step' h.bel, fun h => by omega⟩
theorem NxInv.alloc {wx : World} {v : Value} {n : Nat} {xs : List PV} {wr : World} (h : NxInv wx v n xs wr) (o : Obj) : NxInv wx v n xs (wr.alloc o) := ⟨h.own.alloc _, h.bel.alloc h.bel.size o⟩

theorem RsInv.rv {w wr : World} {A : Option Addr} {n c i k : Nat} {ps : List PV} {S : List (PV × Nat)} {v : Value} {s : PV × Nat} (hp : SL (fun _ => True) w A n c ps) (h : RsInv w ps i S v wr) (hs : S[k]? = some s) : RW wr s.1.1 s.1.2 := by
  have h1 : s ∈ tagFrom 0 ps := List.mem_of_mem_take (h.so.perm.subset (List.mem_of_getElem? hs))
  have h2 : s.1 ∈ ps := by rw [← tagFrom_map ps 0]; exact List.mem_map_of_mem h1
  exact (hp.rv s.1 h2).step h.bel

theorem tagFrom_get (l : List PV) : ∀ (n i : Nat) (p : PV), l[i]? = some p → (tagFrom n l)[i]? = some (p, n + i) := by
  induction l with
  | nil => intro n i p h; simp at h
  | cons x r ih =>
    intro n i p h
    cases i with
    | zero => simp at h; subst h; rfl
    | succ i =>
      have := ih (n + 1) i p (by simpa using h)
      simp only [tagFrom, List.getElem?_cons_succ]
      rw [this, show n + 1 + i = n + (i + 1) by omega]
theorem round_sorted {ps : List PV} {i k : Nat} {S : List (PV × Nat)} {p : PV} (h : Sorted (fun p q : PV => cmpV p.2 q.2) ((tagFrom 0 ps).take i) S) (hp : ps[i]? = some p) (hlo : ∀ (q : Nat) s, S[q]? = some s → q < k → cmpV s.1.2 p.2 ≤ 0) (hhi : ∀ s, S[k]? = some s → ¬ cmpV s.1.2 p.2 ≤ 0) :
    Sorted (fun p q : PV => cmpV p.2 q.2) ((tagFrom 0 ps).take (i + 1)) (S.take k ++ (p, i) :: S.drop k) := by
  have hg := tagFrom_get ps 0 i p hp
  rw [Nat.zero_add] at hg
  rw [take_snoc' hg]
  refine insert_sorted ordV (by rw [List.take_append_drop]; exact h) (fun s hs => ?_) (fun s hs => ?_) (fun s hs => ?_)
  · obtain ⟨q, hq⟩ := List.getElem?_of_mem hs
    have hlt := (List.getElem?_eq_some_iff.1 hq).1
    rw [List.length_take] at hlt
    rw [List.getElem?_take_of_lt (by omega)] at hq
    exact pw_at (tagFrom_tagged ps 0) (by omega : q < i) hq hg
  · obtain ⟨q, hq⟩ := List.getElem?_of_mem hs
    have hlt := (List.getElem?_eq_some_iff.1 hq).1
    rw [List.length_take] at hlt
    rw [List.getElem?_take_of_lt (by omega)] at hq
    exact hlo q s hq (by omega)
  · rw [List.getElem?_drop, Nat.add_zero] at hs
    exact hhi s hs
theorem flat_oneV (xs : List PV) : ∀ u ∈ flat recV xs, u.oneCell' = true := by
  intro u hu
  obtain ⟨p, _, h⟩ := List.mem_flatMap.1 hu
  exact recV_one p u h

set_option maxRecDepth 100000 in
set_option maxHeartbeats 4000000 in
theorem refSort_any (ps : List PV) (A : Option Addr) (n c : Nat) (w : World) (h : SL (fun _ => True) w A n c ps) : Calls Tryz.prog 50 #[.slice A n c] w (fun e w' => ∃ (A' : Option Addr) (n' c' : Nat) (qs : List PV), e = .returned (.slice A' n' c') ∧ StV (ps.map Prod.snd) (qs.map Prod.snd) ∧ SL (fun _ => True) w' A' n' c' qs ∧ Below w.heap.size w w') := by
  obtain ⟨i0, hi0, hz0, hz1, hz2⟩ := info_parts info_value
  have hz := h.sz
  unfold reach at hz
  have HP := Lib.hid h
  have HN := Lib.hid h.sr.ln
  have I0 : Hid (RsInv w ps 0 [] (.slice none 0 0) w) := Lib.hid ⟨own_nil _ _ _ _, Sorted.nil, Below.refl _ _, fun _ => rfl⟩
  clear h
  go_enter Tryz.func50, Tryz.ntmps50
  go_wp2_with fail
  go_loopw [3, 4] (fun v3 v4 wr => ∃ (i : Nat) (S : List (PV × Nat)), i ≤ n ∧ v4 = .int .i64 i ∧ RsInv w ps i S v3 wr) (fun _ v4 _ => n - (intOf v4).toNat)
  case atStart => exact ⟨0, [], Nat.zero_le _, rfl, I0.out⟩
  case round =>
    obtain ⟨i, S, hi, rfl, I⟩ := hrel
    obtain ⟨B, cb, rfl, hcb⟩ := own_slice I.own
    have J := Lib.hid I
    have HSl : Hid (S.length = i) := by
      have h1 := flat_length recV_length (S.map Prod.fst)
      rw [I.own.1] at h1
      rw [List.length_map] at h1
      rw [Hid]
      omega
    by_cases hlt : i < n
    · obtain ⟨p, hp⟩ : ∃ p, ps[i]? = some p := ⟨_, List.getElem?_eq_getElem (by have := HN.out; omega)⟩
      obtain ⟨b, off, rfl, _, hu, hr⟩ := HP.out.vat hp
      have HU := Lib.hid hu
      have HR := Lib.hid hr
      have HPi := Lib.hid hp
      clear hp hu hr I
      go_upto_block 2 with fail
      go_cut [5] (fun s5 wx => ∃ k : Nat, k ≤ i ∧ s5 = .int .i64 k ∧ (∀ (q : Nat) s, S[q]? = some s → q < k → cmpV s.1.2 p.2 ≤ 0) ∧ (∀ s, S[k]? = some s → ¬ cmpV s.1.2 p.2 ≤ 0) ∧ RsInv w ps i S (.slice B i cb) wx)
      case first => as_aux_lemma =>
        go_wp2_with fail
        go_loopw [5] (fun v5 wr => ∃ k : Nat, k ≤ i ∧ v5 = .int .i64 k ∧ (∀ (q : Nat) s, S[q]? = some s → q < k → cmpV s.1.2 p.2 ≤ 0) ∧ RsInv w ps i S (.slice B i cb) wr) (fun v5 _ => n - (intOf v5).toNat)
        case atStart => exact ⟨0, Nat.zero_le _, rfl, fun q s _ hq => by omega, J.out⟩
        case round =>
          obtain ⟨k, hk, rfl, hlo, I⟩ := hrel
          have HLo := Lib.hid hlo
          have J2 := Lib.hid I
          clear hlo
          by_cases hki : k < i
          · obtain ⟨s, hs⟩ : ∃ s, S[k]? = some s := ⟨_, List.getElem?_eq_getElem (by have := HSl.out; omega)⟩
            obtain ⟨g, rfl, hg, r0, r1, r2, r3, r4⟩ := I.at hs
            obtain ⟨p0, p1, p2, p3, p4⟩ := HU.out.keep (I.bel.block b HU.out.lt)
            have P0 : ∀ k : BW wr, k.val.cell? ⟨b, off + i * 5, none⟩ = some (.int .i64 p.1.k) := fun k => k.cell p0
            have P1 : ∀ k : BW wr, k.val.cell? ⟨b, off + i * 5 + 1, none⟩ = some (.int .i64 p.1.n) := fun k => k.cell p1
            have P2 : ∀ k : BW wr, k.val.cell? ⟨b, off + i * 5 + 2, none⟩ = some (.string p.1.t) := fun k => k.cell p2
            have P3 : ∀ k : BW wr, k.val.cell? ⟨b, off + i * 5 + 3, none⟩ = some (.slice p.1.LA p.1.ln p.1.lc) := fun k => k.cell p3
            have P4 : ∀ k : BW wr, k.val.cell? ⟨b, off + i * 5 + 4, none⟩ = some (.slice p.1.DA p.1.dn p.1.dc) := fun k => k.cell p4
            have R0 : ∀ q : BW wr, q.val.cell? ⟨g, k * 5, none⟩ = some (.int .i64 s.1.1.k) := fun q => q.cell r0
            have R1 : ∀ q : BW wr, q.val.cell? ⟨g, k * 5 + 1, none⟩ = some (.int .i64 s.1.1.n) := fun q => q.cell r1
            have R2 : ∀ q : BW wr, q.val.cell? ⟨g, k * 5 + 2, none⟩ = some (.string s.1.1.t) := fun q => q.cell r2
            have R3 : ∀ q : BW wr, q.val.cell? ⟨g, k * 5 + 3, none⟩ = some (.slice s.1.1.LA s.1.1.ln s.1.1.lc) := fun q => q.cell r3
            have R4 : ∀ q : BW wr, q.val.cell? ⟨g, k * 5 + 4, none⟩ = some (.slice s.1.1.DA s.1.1.dn s.1.1.dc) := fun q => q.cell r4
            have i0' : (0 : Int) ≤ (k : Int) := by omega
            have i1' : (k : Int) < (i : Int) := by omega
            have i2' : (0 : Int) ≤ (i : Int) := by omega
            have i3' : (i : Int) < (n : Int) := by omega
            have K1 : Hid (∀ q : BW wr, Calls Tryz.prog 77 #[s.1.1.val, p.1.val] q.val fun e w'' => e = .returned (.int .i64 (cmpV s.1.2 p.2)) ∧ ∃ k : BW wr, w'' = k.val) := fun q =>
              Calls.bw (rcmp_any s.1.2 p.2 s.1.1 p.1 q.val (RsInv.rv HP.out (I.step q.below) hs) ((HR.out.step I.bel).step q.below))
            have HS := Lib.hid hs
            clear p0 p1 p2 p3 p4 r0 r1 r2 r3 r4 I hs
            go_upto_region 6 with fail
            refine wp_region_bw (by kernel_rfl) (by kernel_rfl) ?_
            repeat (go_big_quiet_step (with_reducible exact K1.out _))
            refine wpQuiet_nil ?_
            rintro _ ⟨kw, rfl⟩
            have J3 := Lib.hid (J2.out.step kw.below)
            clear P0 P1 P2 P3 P4 R0 R1 R2 R3 R4 K1 i0' i1' i2' i3'
            generalize kw.val = w2 at *
            by_cases hc : cmpV s.1.2 p.2 ≤ 0
            · have HLo2 : Hid (∀ (q : Nat) s, S[q]? = some s → q < k + 1 → cmpV s.1.2 p.2 ≤ 0) := fun q z hz hq => by
                by_cases e : q = k
                · subst e
                  rw [HS.out] at hz
                  cases hz
                  exact hc
                · exact HLo.out q z hz (by omega)
              go_wp2_with fail
              go_roundw
              case rel => exact ⟨k + 1, by omega, by go_num, HLo2.out, J3.out⟩
              case measure => simp [intOf]; omega
            · have HHi : Hid (∀ z, S[k]? = some z → ¬ cmpV z.1.2 p.2 ≤ 0) := fun z hz => by
                rw [HS.out] at hz
                cases hz
                exact hc
              go_wp2_with fail
              go_meet
              exact ⟨k, by omega, rfl, HLo.out, HHi.out, J3.out⟩
          · have HHi : Hid (∀ z, S[k]? = some z → ¬ cmpV z.1.2 p.2 ≤ 0) := fun z hz => by
              have := (List.getElem?_eq_some_iff.1 hz).1
              have := HSl.out
              omega
            have hki' : decide ((k : Int) < (i : Int)) = false := decide_eq_false (by omega)
            clear I
            go_upto_region 6 with fail
            go_quiet (fail)
            go_wp2_with fail
            go_meet
            exact ⟨k, by omega, rfl, HLo.out, HHi.out, J2.out.step (Below.drewN (Below.refl _ _) _)⟩
      case rest =>
        obtain ⟨k, hk, rfl, hlo, hhi, I⟩ := hcut
        have HD : Hid (Sorted (fun p q : PV => cmpV p.2 q.2) ((tagFrom 0 ps).take (i + 1)) (S.take k ++ (p, i) :: S.drop k)) := round_sorted I.so HPi.out hlo hhi
        have J2 := Lib.hid I
        have HRd := Lib.hid (Reads.of_own I.own)
        have HUc := Lib.hid (HU.out.keep (I.bel.block b HU.out.lt))
        have hbw : b < wc.heap.size := HUc.out.lt
        clear hlo hhi I
        have N0 : Hid (NxInv wc (.slice none 0 0) 0 [] wc) := Lib.hid ⟨own_nil _ _ _ _, Below.refl _ _⟩
        have R1 : Hid (Reads wc wc.heap.size 5 B k (flat recV ((S.map Prod.fst).take k))) := by
          have := HRd.out.take hk
          rw [flat_take recV_length] at this
          exact this
        have R2 : Hid (Reads wc wc.heap.size 5 (if cb = k then B else B.map (·.add (k * 5))) (i - k) (flat recV ((S.map Prod.fst).drop k))) := by
          have := HRd.out.cut hk hcb
          rw [flat_drop recV_length] at this
          exact this
        have hB : B = none ∧ i = 0 ∧ cb = 0 ∨ ∃ g, B = some ⟨g, 0, none⟩ ∧ 0 < i := by
          rcases Nat.eq_zero_or_pos i with h0 | h0
          · have := J2.out.z h0
            cases this
            exact .inl ⟨rfl, h0, rfl⟩
          · rcases J2.out.own.2 with ⟨h1, h2⟩ | ⟨g, cap, cur, hv, hge, hh, hnc, hr⟩
            · omega
            · cases hv
              exact .inr ⟨g, rfl, h0⟩
        obtain ⟨p0, p1, p2, p3, p4⟩ := HUc.out
        have hin : (i : Int) < (n : Int) := by omega
        rcases hB with ⟨rfl, rfl, rfl⟩ | ⟨g, rfl, h0⟩
        · obtain rfl : k = 0 := by omega
          simp only [if_true] at R2
          simp only [Nat.zero_mul, Nat.add_zero] at p0 p1 p2 p3 p4
          go_wp2_with (at_builtin; refine wpList_append_any _ rfl _ _ 28 rfl wc.heap.size 46 i0 VC.zero.val 5 80 Tryz.underlying28 hi0 hz0 hz1 hz2 rfl (by decide) (.slice none 0 0) 0 (flat recV []) rfl N0.out.own _ _ 0 _ (flat recV ((S.map Prod.fst).take 0)) rfl R1.out ?c1 (by unfold maxLen; omega) (by omega) (Nat.le_refl _) ?_)
          case c1 => exact flat_oneV _
          intro v1 w1 ho1 hg1 _
          have N1 : Hid (NxInv wc v1 0 ([] ++ (S.map Prod.fst).take 0) w1) := Lib.hid (N0.out.next rfl (by omega) ho1 hg1)
          clear ho1 hg1 p0 p1 p2 p3 p4
          obtain ⟨p0, p1, p2, p3, p4⟩ := HUc.out.keep (N1.out.bel.block b hbw)
          simp only [Nat.zero_mul, Nat.add_zero] at p0 p1 p2 p3 p4
          have hb1 : b < w1.heap.size := by have := N1.out.bel.size; omega
          have hw1 := N1.out.bel.size
          go_wp2_with (at_builtin; refine wpList_append_any _ rfl _ _ 28 rfl wc.heap.size 46 i0 VC.zero.val 5 80 Tryz.underlying28 hi0 hz0 hz1 hz2 rfl (by decide) v1 0 (flat recV ([] ++ (S.map Prod.fst).take 0)) rfl (N1.out.alloc _).own _ _ 1 _ (recV p) rfl ⟨rfl, fun _ => ⟨_, rfl, Nat.lt_succ_self _, news_at _ _ _⟩⟩ ?c1 (by unfold maxLen; omega) (by omega) (by simp; omega) ?_)
          case c1 => exact recV_one p
          intro v2 w2 ho2 hg2 _
          have N2 : Hid (NxInv wc v2 1 ([] ++ (S.map Prod.fst).take 0 ++ [p]) w2) := Lib.hid ((N1.out.alloc _).next (by simp [flat]) (by omega) ho2 hg2)
          clear ho2 hg2 p0 p1 p2 p3 p4
          have hw2 := N2.out.bel.size
          go_wp2_with (at_builtin; refine wpList_append_any _ rfl _ _ 28 rfl wc.heap.size 46 i0 VC.zero.val 5 80 Tryz.underlying28 hi0 hz0 hz1 hz2 rfl (by decide) v2 1 (flat recV ([] ++ (S.map Prod.fst).take 0 ++ [p])) rfl N2.out.own _ _ 0 _ (flat recV ((S.map Prod.fst).drop 0)) rfl (R2.out.below N2.out.bel) ?c1 (by unfold maxLen; omega) (by omega) hw2 ?_)
          case c1 => exact flat_oneV _
          intro v3 w3 ho3 hg3 _
          have N3 : Hid (NxInv wc v3 (1) ([] ++ (S.map Prod.fst).take 0 ++ [p] ++ (S.map Prod.fst).drop 0) w3) := Lib.hid (N2.out.next rfl (by omega) ho3 hg3)
          clear ho3 hg3
          go_wp2_with fail
          go_roundw
          case rel => exact ⟨0 + 1, _, by omega, by go_num, N3.out.done J2.out (by omega) (by simp) HD.out⟩
          case measure => simp [intOf]; omega
        · have hc0 : (cb = 0) = False := by simp; omega
          by_cases hck : cb = k
          · subst hck
            simp only [if_true] at R2
            rw [show i - cb = 0 by omega] at R2
            go_wp2_with (at_builtin; refine wpList_append_any _ rfl _ _ 28 rfl wc.heap.size 46 i0 VC.zero.val 5 80 Tryz.underlying28 hi0 hz0 hz1 hz2 rfl (by decide) (.slice none 0 0) 0 (flat recV []) rfl N0.out.own _ _ cb _ (flat recV ((S.map Prod.fst).take cb)) rfl R1.out ?c1 (by unfold maxLen; omega) (by omega) (Nat.le_refl _) ?_)
            case c1 => exact flat_oneV _
            intro v1 w1 ho1 hg1 _
            have N1 : Hid (NxInv wc v1 cb ([] ++ (S.map Prod.fst).take cb) w1) := Lib.hid (N0.out.next rfl (by omega) ho1 hg1)
            clear ho1 hg1 p0 p1 p2 p3 p4
            obtain ⟨p0, p1, p2, p3, p4⟩ := HUc.out.keep (N1.out.bel.block b hbw)
            have hb1 : b < w1.heap.size := by have := N1.out.bel.size; omega
            have hw1 := N1.out.bel.size
            go_wp2_with (at_builtin; refine wpList_append_any _ rfl _ _ 28 rfl wc.heap.size 46 i0 VC.zero.val 5 80 Tryz.underlying28 hi0 hz0 hz1 hz2 rfl (by decide) v1 cb (flat recV ([] ++ (S.map Prod.fst).take cb)) rfl (N1.out.alloc _).own _ _ 1 _ (recV p) rfl ⟨rfl, fun _ => ⟨_, rfl, Nat.lt_succ_self _, news_at _ _ _⟩⟩ ?c1 (by unfold maxLen; omega) (by omega) (by simp; omega) ?_)
            case c1 => exact recV_one p
            intro v2 w2 ho2 hg2 _
            have N2 : Hid (NxInv wc v2 (cb + 1) ([] ++ (S.map Prod.fst).take cb ++ [p]) w2) := Lib.hid ((N1.out.alloc _).next (by simp [flat]) (by omega) ho2 hg2)
            clear ho2 hg2 p0 p1 p2 p3 p4
            have hw2 := N2.out.bel.size
            go_wp2_with (at_builtin; refine wpList_append_any _ rfl _ _ 28 rfl wc.heap.size 46 i0 VC.zero.val 5 80 Tryz.underlying28 hi0 hz0 hz1 hz2 rfl (by decide) v2 (cb + 1) (flat recV ([] ++ (S.map Prod.fst).take cb ++ [p])) rfl N2.out.own _ _ 0 _ (flat recV ((S.map Prod.fst).drop cb)) rfl (R2.out.below N2.out.bel) ?c1 (by unfold maxLen; omega) (by omega) hw2 ?_)
            case c1 => exact flat_oneV _
            intro v3 w3 ho3 hg3 _
            have N3 : Hid (NxInv wc v3 (cb + 1) ([] ++ (S.map Prod.fst).take cb ++ [p] ++ (S.map Prod.fst).drop cb) w3) := Lib.hid (N2.out.next rfl (by omega) ho3 hg3)
            clear ho3 hg3
            go_wp2_with fail
            go_roundw
            case rel => exact ⟨i + 1, _, by omega, by go_num, N3.out.done J2.out (by omega) (by simp) HD.out⟩
            case measure => simp [intOf]; omega
          · rw [if_neg hck] at R2
            simp only [Option.map_some, addr_add, Nat.zero_add] at R2
            have hck' : (cb = k) = False := by simp; omega
            go_wp2_with (at_builtin; refine wpList_append_any _ rfl _ _ 28 rfl wc.heap.size 46 i0 VC.zero.val 5 80 Tryz.underlying28 hi0 hz0 hz1 hz2 rfl (by decide) (.slice none 0 0) 0 (flat recV []) rfl N0.out.own _ _ k _ (flat recV ((S.map Prod.fst).take k)) rfl R1.out ?c1 (by unfold maxLen; omega) (by omega) (Nat.le_refl _) ?_)
            case c1 => exact flat_oneV _
            intro v1 w1 ho1 hg1 _
            have N1 : Hid (NxInv wc v1 k ([] ++ (S.map Prod.fst).take k) w1) := Lib.hid (N0.out.next rfl (by omega) ho1 hg1)
            clear ho1 hg1 p0 p1 p2 p3 p4
            obtain ⟨p0, p1, p2, p3, p4⟩ := HUc.out.keep (N1.out.bel.block b hbw)
            have hb1 : b < w1.heap.size := by have := N1.out.bel.size; omega
            have hw1 := N1.out.bel.size
            go_wp2_with (at_builtin; refine wpList_append_any _ rfl _ _ 28 rfl wc.heap.size 46 i0 VC.zero.val 5 80 Tryz.underlying28 hi0 hz0 hz1 hz2 rfl (by decide) v1 k (flat recV ([] ++ (S.map Prod.fst).take k)) rfl (N1.out.alloc _).own _ _ 1 _ (recV p) rfl ⟨rfl, fun _ => ⟨_, rfl, Nat.lt_succ_self _, news_at _ _ _⟩⟩ ?c1 (by unfold maxLen; omega) (by omega) (by simp; omega) ?_)
            case c1 => exact recV_one p
            intro v2 w2 ho2 hg2 _
            have N2 : Hid (NxInv wc v2 (k + 1) ([] ++ (S.map Prod.fst).take k ++ [p]) w2) := Lib.hid ((N1.out.alloc _).next (by simp [flat]) (by omega) ho2 hg2)
            clear ho2 hg2 p0 p1 p2 p3 p4
            have hw2 := N2.out.bel.size
            go_wp2_with (at_builtin; refine wpList_append_any _ rfl _ _ 28 rfl wc.heap.size 46 i0 VC.zero.val 5 80 Tryz.underlying28 hi0 hz0 hz1 hz2 rfl (by decide) v2 (k + 1) (flat recV ([] ++ (S.map Prod.fst).take k ++ [p])) rfl N2.out.own _ _ (i - k) _ (flat recV ((S.map Prod.fst).drop k)) rfl (R2.out.below N2.out.bel) ?c1 (by unfold maxLen; omega) (by omega) hw2 ?_)
            case c1 => exact flat_oneV _
            intro v3 w3 ho3 hg3 _
            have N3 : Hid (NxInv wc v3 (k + 1 + (i - k)) ([] ++ (S.map Prod.fst).take k ++ [p] ++ (S.map Prod.fst).drop k) w3) := Lib.hid (N2.out.next rfl (by omega) ho3 hg3)
            clear ho3 hg3
            go_wp2_with fail
            go_roundw
            case rel => exact ⟨i + 1, _, by omega, by go_num, N3.out.done J2.out (by omega) (by simp) HD.out⟩
            case measure => simp [intOf]; omega
    · have HF : Hid ((tagFrom 0 ps).take i = tagFrom 0 ps) := List.take_of_length_le (by rw [tagFrom_length]; have := HN.out; omega)
      clear I
      go_wp2_with fail
      go_ret
      have ho := J.out.own
      obtain ⟨A', c', e, hs⟩ := SL.of_own (F := fun _ => True) ho (by rw [List.length_map]; exact HSl.out) (by unfold reach; omega) (fun _ _ => trivial) (fun q hq => by
        obtain ⟨s, hs, rfl⟩ := List.mem_map.1 hq
        obtain ⟨k, hk⟩ := List.getElem?_of_mem hs
        exact RsInv.rv HP.out J.out hk)
      cases e
      refine ⟨B, i, cb, S.map Prod.fst, rfl, ⟨S.map (fun p => (p.1.2, p.2)), ?_, by simp⟩, hs, J.out.bel⟩
      have := J.out.so
      rw [HF.out] at this
      have := this.toVal
      rw [tag_val] at this
      exact this

end Go.Proofs.YtlmmgjgkmbmgpaaGreatDoor



/- Two equal lists are the same; and the order of documents by identifiers. -/
namespace Go.Proofs.YtlmmgjgkmbmgpaaGreatDoor
open Go.RowKit

theorem list_valM {F : Nat → Prop} {w : World} {A : Option Addr} {n c : Nat} {ps : List PV} (h : SL F w A n c ps) : RV F w ⟨6, 0, ByteArray.empty, A, n, c, none, 0, 0⟩ (.mk 6 0 ByteArray.empty (ps.map Prod.snd) []) := by
  have := RV.of_slices (k := 6) (m := 0) (t := ByteArray.empty) (by show (0 : Nat) ≤ reach; decide) h (SD.nil (F := F) (w := w))
  simpa using this
set_option maxRecDepth 100000 in
theorem samelistM_eq (ps qs : List PV) (A B : Option Addr) (n c m d : Nat) (w : World) (h : SL (fun _ => True) w A n c ps) (h' : SL (fun _ => True) w B m d qs) (he : ps.map Prod.snd = qs.map Prod.snd) :
    Calls Tryz.prog 18 #[.slice A n c, .slice B m d] w fun e w' => e = .returned (.bool true) ∧ Below w.heap.size w w' := by
  have H := Lib.hid (list_valM h)
  have H' := Lib.hid (list_valM h')
  have HE := Lib.hid he
  clear h h' he
  go_enter Tryz.func18, Tryz.ntmps18
  go_wp2_with fail
  refine (rsame_any _ _ ⟨6, 0, ByteArray.empty, A, n, c, none, 0, 0⟩ ⟨6, 0, ByteArray.empty, B, m, d, none, 0, 0⟩ _ H.out H'.out).mono ?_
  rintro e w1 ⟨rfl, hb⟩
  rw [HE.out, sameV_true rfl]
  go_wp2_with fail
  go_ret
  exact ⟨rfl, hb⟩

/-- the documents in the order of their identifiers -/
noncomputable def pickL (docs ks : List Val) : List Val := ks.flatMap fun k => (docs.find? (fun d => sameId k d)).toList
def SortedD (docs out : List Val) : Prop := ∃ ks, StV (docs.map idV) ks ∧ out = pickL docs ks
theorem SortedD.unique {docs a b : List Val} (h : SortedD docs a) (h' : SortedD docs b) : a = b := by
  obtain ⟨ks, h1, rfl⟩ := h
  obtain ⟨ks', h2, rfl⟩ := h'
  rw [StV.unique h1 h2]

end Go.Proofs.YtlmmgjgkmbmgpaaGreatDoor


