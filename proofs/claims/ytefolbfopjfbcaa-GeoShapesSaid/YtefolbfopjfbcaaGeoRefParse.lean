/- The contract of the reference's Parse. -/
import Derived.Test.YtefolbfopjfbcaaGeoParse
namespace Go.Proofs.Ytefolbfopjfbcaa
open Go.RowKit
set_option linter.unusedSimpArgs false

theorem PaInv.rerr {w : World} {k r : Int} {v : Value} {wr : World} (h : PaInv w k r v wr) {x : Val} (ho : parseV x = none) (tmps : Array Value) (h1 : tmps.getD 2 undef = .pointer (some ⟨w.heap.size + 1, 0, none⟩)) (h2 : tmps.getD 3 undef = .int .i64 18) :
    bodyPost Try.prog Try.f24 (PRes (parseV x) w) .ret ⟨tmps, []⟩ wr :=
  bodyPost_ret (results_shp_err rfl _ _ h1 _ h2 _ _ _ _ _ _ h.b1) rfl (.inl ⟨ho, rfl, h.bel⟩)

theorem rkind_any (s : ByteArray) (w : World) : Calls Try.prog 41 #[.string s] w fun e w' => e = .returned (.int .i64 (kindOf s)) ∧ w' = w := by
  cases n1 : (s.toList == [36, 98, 111, 120])
  · cases n2 : (s.toList == [36, 99, 105, 114, 99, 108, 101])
    · cases n3 : (s.toList == [36, 112, 111, 108, 121, 103, 111, 110])
      all_goals
        go_enter Try.func41, Try.ntmps41
        go_wp2_with fail
        go_ret
        exact ⟨by simp [kindOf, n1, n2, n3], rfl⟩
    · go_enter Try.func41, Try.ntmps41
      go_wp2_with fail
      go_ret
      exact ⟨by simp [kindOf, n1, n2], rfl⟩
  · go_enter Try.func41, Try.ntmps41
    go_wp2_with fail
    go_ret
    exact ⟨by simp [kindOf, n1], rfl⟩

set_option maxRecDepth 100000 in
set_option maxHeartbeats 4000000 in
theorem rparse_any (x : Val) (c : VC) (w : World) (h : RW w c x) : Calls Try.prog 24 #[c.val] w (PRes (parseV x) w) := by
  have H := Lib.hid h
  have ho := h.open
  clear h
  by_cases hk : c.k = 5 ∧ c.dn = 1
  · obtain ⟨hk5, hd1⟩ := hk
    obtain ⟨b, off, hDA, _, hel⟩ := ho.da (by omega)
    obtain ⟨f, hf⟩ : ∃ f, x.d = [f] := by
      have := ho.dn
      match hd : x.d with
      | [f] => exact ⟨f, rfl⟩
      | [] => rw [hd] at this; simp at this; omega
      | _ :: _ :: _ => rw [hd] at this; simp at this; omega
    obtain ⟨hs, _, u, hu, hr⟩ := hel 0 f (by rw [hf]; rfl)
    simp only [Nat.zero_mul, Nat.add_zero] at hs hu
    obtain ⟨ck, cn, ct, cLA, cln, clc, cDA, cdn, cdc⟩ := c
    simp only at hk5 hd1 hDA
    subst hk5 hd1 hDA
    have hb := hu.lt
    obtain ⟨uk, un, ut, uLA, uln, ulc, uDA, udn, udc⟩ := u
    obtain ⟨c0, c1, c2, c3, c4⟩ := hu
    simp only at c0 c1 c2 c3 c4
    have hbk : b < w.heap.size + 1 ∧ b < w.heap.size + 2 := by omega
    have hfk : uk = f.v.k := hr.open.k
    have HH : Hid (headOf x = if f.v.k == 6 then
      if kindOf f.s == 2 then
        match f.v.l with
        | [a, b] => if b.k == 3 then some (2, b.n, [a]) else none
        | _ => none
      else some (kindOf f.s, 0, f.v.l)
    else none) := by
      have h5 : x.k = 5 := ho.k.symm
      simp [headOf, Hid, h5, hf]
      rfl
    have HL := Lib.hid (RdL.of_rv hr)
    simp only at HL
    have HR := Lib.hid hr
    clear ho hel hr hf
    have I0 : Hid (∀ k r : Int, PaInv w k r (.slice none 0 0) ((((w.alloc (Obj.cells #[.int .i64 5, .int .i64 cn, .string ct, .slice cLA cln clc, .slice (some ⟨b, off, none⟩) 1 cdc] 25)).alloc (Obj.cells #[.int .i64 0, .slice none 0 0, .int .i64 0] 35)).alloc (Obj.cells #[.int .i64 k, .slice none 0 0, .int .i64 r] 35)))) :=
        Lib.hid fun _ _ => ⟨(Blk.new_at (by simp)).alloc _, Blk.new_at (by simp), (((Below.refl _ _).alloc (Nat.le_refl _) _).alloc (by simp) _).alloc (by simp; omega) _⟩
    cases hk6 : (uk != 6)
    · have h6 : f.v.k = 6 := by rw [← hfk]; simpa using hk6
      have HH' := Lib.hid HH.out
      simp only [h6] at HH'
      cases hc : (kindOf f.s == 2)
      · have HD : Hid (headOf x = some (kindOf f.s, 0, f.v.l)) := by
          rw [Hid, HH'.out]
          simp [hc]
        have HI := Lib.hid (I0.out (kindOf f.s) 0)
        have HLN := Lib.hid HL.out.ln
        clear HH HH' I0 HR H
        go_enter Try.func24, Try.ntmps24
        go_upto_region 10 with (go_at_call 41; refine (rkind_any _ _).mono ?_; rintro _ _ ⟨rfl, rfl⟩)
        clear c0 c1 c2 c3 c4 hs hfk hk6 h6 hb hbk
        have hnm : uln ≤ maxLen := by have := HL.out.sz; simp only [reach] at this; simp only [maxLen]; omega
        have hn9 : uln ≤ 1759218604391 := by have := HL.out.sz; simp only [reach] at this; omega
        obtain ⟨i0, hi0, hz0, hz1, hz2⟩ := info_parts info_point
        cases hgt : decide (64 < (uln : Int))
        · have hgt' : (uln : Int) ≤ 64 := by simpa using hgt
          go_wp2_with fail
          go_loopw [6] (fun v6 wr => ∃ (i : Nat) (v : Value) (pts : List (Int × Int)), i ≤ uln ∧ v6 = .int .i64 i ∧ ptsOf (f.v.l.take i) = some pts ∧ PaL w (kindOf f.s) 0 v pts i wr) (fun v6 _ => uln - (intOf v6).toNat)
          case atStart => exact ⟨0, _, [], Nat.zero_le _, rfl, rfl, HI.out, ⟨rfl, .inl ⟨rfl, rfl⟩⟩⟩
          case round =>
            obtain ⟨i, v, pts, hi, rfl, hp, I3⟩ := hrel
            have HP := Lib.hid hp
            have J3 := Lib.hid I3
            clear hp
            by_cases hlt : i < uln
            · obtain ⟨y, hy⟩ : ∃ y, (f.v.l)[i]? = some y := ⟨_, List.getElem?_eq_getElem (by have := HL.out.ln; omega)⟩
              obtain ⟨b, off, hA, hel⟩ := (HL.out.step I3.bel).el (by omega)
              subst hA
              obtain ⟨e, ve, re⟩ := hel i y hy
              have hbl := ve.lt
              obtain ⟨p0, p1, p2, p3, p4⟩ := ve
              have HE := Lib.hid re
              clear hel re I3
              go_wp2_with fail
              refine (rpoint_any e _ _ _ _ _ (psel_any HE.out (gives_rget HE.out))).mono ?_
              rintro ee w1 ⟨rfl, hb⟩
              have I4 := J3.out.step hb
              have g1 := I4.b2.cell 1
              have z1 := I4.b2.frozen 1
              have l1 := I4.b1.lt
              have l2 := I4.b2.lt
              have q0 := I4.b1.frozen 0
              have q1 := I4.b1.frozen 1
              have q2 := I4.b1.frozen 2
              have q3 := I4.b1.cell 0
              have q4 := I4.b1.cell 1
              have q5 := I4.b1.cell 2
              simp at g1 q3 q4 q5
              have J4 := Lib.hid I4
              clear p0 p1 p2 p3 p4 hb I4 hbl HE
              cases hpt : ptOf y with
              | none =>
                rw [ptRes_none hpt]
                have HN : Hid (parseV x = none) := by
                  have hl0 : ptsOf (f.v.l) = none := ptsOf_none hy hpt
                  simp only [parseV, HD.out, bodyOf, hl0, Hid]
                clear hy hpt
                go_wp2_with fail
                exact (J4.out.toPaInv.zero.alloc _).rerr HN.out _ rfl rfl
              | some p =>
                rw [ptRes_some hpt]
                have HN := Lib.hid (ptsOf_snoc HP.out hy hpt)
                clear hy hpt
                have hs : v.ownBlock ≠ some (w.heap.size + 2) := own_ne J4.out.own (by omega)
                go_wp2_with (at_builtin; refine wpList_append_own _ rfl _ _ 33 rfl (w.heap.size + 3) 27 i0 (.agg #[.int .i64 0, .int .i64 0]) 2 16 Try.underlying33 hi0 hz0 hz1 hz2 rfl (by decide) v i (flatP pts) rfl ?c0 ⟨w1.heap.size + 1, 0, none⟩ 1 1 [.int .i64 p.1, .int .i64 p.2] rfl rfl ?c1 ?c2 ?c3 ?c4 ?c5 ?_)
                case c0 => exact (J4.out.own.alloc _).alloc _
                case c1 =>
                  rw [show w1.heap.size + 1 = (w1.alloc (Obj.cells #[.int .i64 p.1, .int .i64 p.2] 27)).heap.size from by simp]
                  exact news_at _ _ _
                case c2 => simp [Value.oneCell']
                case c3 => omega
                case c4 => omega
                case c5 => simp; omega
                intro v2 w2 hown hg _
                have I5 := J4.out.step ((Below.refl _ _).alloc (Nat.le_refl _) (Obj.cells #[.int .i64 p.1, .int .i64 p.2] 27))
                obtain ⟨g, cap, rfl⟩ := own_form hown (by omega)
                have B2 := (I5.b2.alloc _).grown hg (fun e => hs e.symm)
                clear g1 z1 q0 q1 q2 q3 q4 q5
                have g1 := B2.cell 1
                have z1 := B2.frozen 1
                simp at g1
                have J5 := Lib.hid I5
                have HO := Lib.hid hown
                have HG := Lib.hid hg
                clear I5 B2 hown hg
                go_wp2_with fail
                go_roundw
                case rel => exact ⟨i + 1, _, _, by omega, by go_num, HN.out, J5.out.next HG.out HO.out⟩
                case measure => simp [intOf]; omega
            · obtain rfl : i = uln := by omega
              have hp := HP.out
              rw [List.take_of_length_le (by have := HL.out.ln; omega)] at hp
              have hlen := ptsOf_length hp
              obtain ⟨A8, c8, rfl, hrd⟩ := RdPts.of_own I3.own (by rw [hlen]; exact HL.out.ln.symm) hnm
              have e0 := I3.b2.cell 0
              have e1 := I3.b2.cell 1
              have e2 := I3.b2.cell 2
              simp at e0 e1 e2
              have HV := Lib.hid hrd
              have HP2 := Lib.hid hp
              clear I3 hp hlen hrd
              go_wp2_with fail
              refine (rvalid_any _ _ _ _ _ _ _ HV.out).mono ?_
              rintro ee w1 ⟨rfl, hb⟩
              have I4 := J3.out.step hb
              have q0 := I4.b1.frozen 0
              have q1 := I4.b1.frozen 1
              have q2 := I4.b1.frozen 2
              have q3 := I4.b1.cell 0
              have q4 := I4.b1.cell 1
              have q5 := I4.b1.cell 2
              simp at q3 q4 q5
              have J4 := Lib.hid I4
              clear e0 e1 e2 hb
              have e0 := I4.b2.cell 0
              have e1 := I4.b2.cell 1
              have e2 := I4.b2.cell 2
              simp at e0 e1 e2
              clear I4
              cases hvb : validB (kindOf f.s) pts 0
              · have he : (errOf false != 0) = true := by decide
                go_wp2_with fail
                refine J4.out.toPaInv.zero.rerr ?_ _ rfl rfl
                simp [parseV, HD.out, bodyOf, HP2.out, hvb]
              · have he : (errOf true != 0) = false := by decide
                go_wp2_with fail
                have Bz : Blk (((w1.setCell ⟨w.heap.size + 1, 0, none⟩ (.int .i64 (kindOf f.s))).setCell ⟨w.heap.size + 1, 1, none⟩ (.slice A8 i c8)).setCell ⟨w.heap.size + 1, 2, none⟩ (.int .i64 0)) (w.heap.size + 1) 35 #[.int .i64 (kindOf f.s), .slice A8 i c8, .int .i64 0] := ((J4.out.b1.set_ 0 _).set_ 1 _).set_ 2 _
                have Be := ((J4.out.bel.setCell (p := ⟨w.heap.size + 1, 0, none⟩) (by show w.heap.size ≤ w.heap.size + 1; omega) (.int .i64 (kindOf f.s))).setCell (p := ⟨w.heap.size + 1, 1, none⟩) (by show w.heap.size ≤ w.heap.size + 1; omega) (.slice A8 i c8)).setCell (p := ⟨w.heap.size + 1, 2, none⟩) (by show w.heap.size ≤ w.heap.size + 1; omega) (.int .i64 0)
                have Bo := ownsRow_setCell_below (a := ⟨w.heap.size + 1, 2, none⟩) (ownsRow_setCell_below (a := ⟨w.heap.size + 1, 1, none⟩) (ownsRow_setCell_below (a := ⟨w.heap.size + 1, 0, none⟩) J4.out.own (by show w.heap.size + 1 < w.heap.size + 3; omega) (.int .i64 (kindOf f.s))) (by show w.heap.size + 1 < w.heap.size + 3; omega) (.slice A8 i c8)) (by show w.heap.size + 1 < w.heap.size + 3; omega) (.int .i64 0)
                obtain ⟨A9, c9, h9, hrd9⟩ := RdPts.of_own Bo (by rw [ptsOf_length HP2.out]; exact HL.out.ln.symm) hnm
                cases h9
                refine bodyPost_ret (results_shp_err rfl _ _ rfl _ rfl _ _ _ _ _ _ Bz) rfl (.inr ⟨(kindOf f.s), pts, 0, A8, i, c8, ?_, rfl, hrd9, Be⟩)
                simp [parseV, HD.out, bodyOf, HP2.out, hvb]
        · have HN : Hid (parseV x = none) := by
            have hgt' : (64 : Int) < uln := by simpa using hgt
            have hln := HL.out.ln
            simp only [parseV, HD.out, bodyOf, Hid]
            cases hp : ptsOf (f.v.l) with
            | none => rfl
            | some ps =>
              have hlen := ptsOf_length hp
              have hv : validB (kindOf f.s) ps 0 = false := by
                cases hv : validB (kindOf f.s) ps 0
                · rfl
                · have := formB_cases (validB_form hv).1
                  omega
              simp [hv]
          go_wp2_with fail
          exact HI.out.rerr HN.out _ rfl rfl
      · have hkd : kindOf f.s = 2 := by simpa using hc
        have HLN := Lib.hid HL.out.ln
        have hkr : (Calls Try.prog 41 #[.string f.s] ((w.alloc (Obj.cells #[.int .i64 5, .int .i64 cn, .string ct, .slice cLA cln clc, .slice (some ⟨b, off, none⟩) 1 cdc] 25)).alloc (Obj.cells #[.int .i64 0, .slice none 0 0, .int .i64 0] 35)) fun e w' => e = .returned (.int .i64 2) ∧ w' = ((w.alloc (Obj.cells #[.int .i64 5, .int .i64 cn, .string ct, .slice cLA cln clc, .slice (some ⟨b, off, none⟩) 1 cdc] 25)).alloc (Obj.cells #[.int .i64 0, .slice none 0 0, .int .i64 0] 35))) := by
          rw [← hkd]
          exact rkind_any _ _
        have HK := Lib.hid hkr
        clear hc hkr
        cases hl2 : ((uln : Int) != 2)
        · obtain rfl : uln = 2 := by simp at hl2; omega
          obtain ⟨a1, a2, hl⟩ : ∃ a1 a2, f.v.l = [a1, a2] := by
            have hlen := HLN.out
            match hd : f.v.l with
            | [a, b] => exact ⟨a, b, rfl⟩
            | [] => rw [hd] at hlen; simp at hlen
            | [_] => rw [hd] at hlen; simp at hlen
            | _ :: _ :: _ :: _ => rw [hd] at hlen; simp at hlen
          obtain ⟨lb, lo, rfl, hel⟩ := HL.out.el (by omega)
          obtain ⟨e1, v1, r1⟩ := hel 1 a2 (by rw [hl]; rfl)
          have hlb := v1.lt
          have hlc := HL.out.lc
          have hlbk : lb < w.heap.size + 1 ∧ lb < w.heap.size + 2 := by omega
          obtain ⟨p0, p1, _, _, _⟩ := v1
          simp only [Nat.one_mul] at p0 p1
          have hek := Lib.hid r1.open.k
          have hen := Lib.hid r1.open.n
          cases hk3 : (e1.k != 3)
          · have HD : Hid (headOf x = some (2, e1.n, [a1])) := by
              rw [Hid, HH'.out, hl]
              simp at hk3
              simp [hkd, ← hek.out, hk3, hen.out]
            have HX : Hid (RdL w (some ⟨lb, lo, none⟩) 1 ulc [a1]) := by
              refine ⟨rfl, by omega, by have := HL.out.sz; omega, fun _ => ⟨lb, lo, rfl, fun i y hi => ?_⟩⟩
              match i, hi with
              | 0, hi => exact hel 0 y (by rw [hl]; simpa using hi)
            have HI := Lib.hid (I0.out 2 e1.n)
            clear HH HH' I0 HR H r1 hel hl hek hen HL HLN
            have HL := HX
            clear HX
            generalize e1.n = rad at *
            generalize e1.k = radk at *
            go_enter Try.func24, Try.ntmps24
            go_upto_region 10 with (go_at_call 41; refine HK.out.mono ?_; rintro _ _ ⟨rfl, rfl⟩)
            clear c0 c1 c2 c3 c4 hs hfk hk6 h6 hb hbk HK p0 p1
            have hnm : 1 ≤ maxLen := by have := HL.out.sz; simp only [reach] at this; simp only [maxLen]; omega
            have hn9 : 1 ≤ 1759218604391 := by have := HL.out.sz; simp only [reach] at this; omega
            obtain ⟨i0, hi0, hz0, hz1, hz2⟩ := info_parts info_point
            cases hgt : decide (64 < (1 : Int))
            · have hgt' : (1 : Int) ≤ 64 := by decide
              go_wp2_with fail
              go_loopw [6] (fun v6 wr => ∃ (i : Nat) (v : Value) (pts : List (Int × Int)), i ≤ 1 ∧ v6 = .int .i64 i ∧ ptsOf ([a1].take i) = some pts ∧ PaL w 2 rad v pts i wr) (fun v6 _ => 1 - (intOf v6).toNat)
              case atStart => exact ⟨0, _, [], Nat.zero_le _, rfl, rfl, HI.out, ⟨rfl, .inl ⟨rfl, rfl⟩⟩⟩
              case round =>
                obtain ⟨i, v, pts, hi, rfl, hp, I3⟩ := hrel
                have HP := Lib.hid hp
                have J3 := Lib.hid I3
                clear hp
                by_cases hlt : i < 1
                · obtain ⟨y, hy⟩ : ∃ y, ([a1])[i]? = some y := ⟨_, List.getElem?_eq_getElem (by have := HL.out.ln; omega)⟩
                  obtain ⟨b, off, hA, hel⟩ := (HL.out.step I3.bel).el (by omega)
                  cases hA
                  obtain ⟨e, ve, re⟩ := hel i y hy
                  have hbl := ve.lt
                  obtain ⟨p0, p1, p2, p3, p4⟩ := ve
                  have HE := Lib.hid re
                  clear hel re I3
                  go_wp2_with fail
                  refine (rpoint_any e _ _ _ _ _ (psel_any HE.out (gives_rget HE.out))).mono ?_
                  rintro ee w1 ⟨rfl, hb⟩
                  have I4 := J3.out.step hb
                  have g1 := I4.b2.cell 1
                  have z1 := I4.b2.frozen 1
                  have l1 := I4.b1.lt
                  have l2 := I4.b2.lt
                  have q0 := I4.b1.frozen 0
                  have q1 := I4.b1.frozen 1
                  have q2 := I4.b1.frozen 2
                  have q3 := I4.b1.cell 0
                  have q4 := I4.b1.cell 1
                  have q5 := I4.b1.cell 2
                  simp at g1 q3 q4 q5
                  have J4 := Lib.hid I4
                  clear p0 p1 p2 p3 p4 hb I4 hbl HE
                  cases hpt : ptOf y with
                  | none =>
                    rw [ptRes_none hpt]
                    have HN : Hid (parseV x = none) := by
                      have hl0 : ptsOf ([a1]) = none := ptsOf_none hy hpt
                      simp only [parseV, HD.out, bodyOf, hl0, Hid]
                    clear hy hpt
                    go_wp2_with fail
                    exact (J4.out.toPaInv.zero.alloc _).rerr HN.out _ rfl rfl
                  | some p =>
                    rw [ptRes_some hpt]
                    have HN := Lib.hid (ptsOf_snoc HP.out hy hpt)
                    clear hy hpt
                    have hs : v.ownBlock ≠ some (w.heap.size + 2) := own_ne J4.out.own (by omega)
                    go_wp2_with (at_builtin; refine wpList_append_own _ rfl _ _ 33 rfl (w.heap.size + 3) 27 i0 (.agg #[.int .i64 0, .int .i64 0]) 2 16 Try.underlying33 hi0 hz0 hz1 hz2 rfl (by decide) v i (flatP pts) rfl ?c0 ⟨w1.heap.size + 1, 0, none⟩ 1 1 [.int .i64 p.1, .int .i64 p.2] rfl rfl ?c1 ?c2 ?c3 ?c4 ?c5 ?_)
                    case c0 => exact (J4.out.own.alloc _).alloc _
                    case c1 =>
                      rw [show w1.heap.size + 1 = (w1.alloc (Obj.cells #[.int .i64 p.1, .int .i64 p.2] 27)).heap.size from by simp]
                      exact news_at _ _ _
                    case c2 => simp [Value.oneCell']
                    case c3 => omega
                    case c4 => omega
                    case c5 => simp; omega
                    intro v2 w2 hown hg _
                    have I5 := J4.out.step ((Below.refl _ _).alloc (Nat.le_refl _) (Obj.cells #[.int .i64 p.1, .int .i64 p.2] 27))
                    obtain ⟨g, cap, rfl⟩ := own_form hown (by omega)
                    have B2 := (I5.b2.alloc _).grown hg (fun e => hs e.symm)
                    clear g1 z1 q0 q1 q2 q3 q4 q5
                    have g1 := B2.cell 1
                    have z1 := B2.frozen 1
                    simp at g1
                    have J5 := Lib.hid I5
                    have HO := Lib.hid hown
                    have HG := Lib.hid hg
                    clear I5 B2 hown hg
                    go_wp2_with fail
                    go_roundw
                    case rel => exact ⟨i + 1, _, _, by omega, by go_num, HN.out, J5.out.next HG.out HO.out⟩
                    case measure => simp [intOf]; omega
                · obtain rfl : i = 1 := by omega
                  have hp := HP.out
                  rw [List.take_of_length_le (by have := HL.out.ln; omega)] at hp
                  have hlen := ptsOf_length hp
                  obtain ⟨A8, c8, rfl, hrd⟩ := RdPts.of_own I3.own (by rw [hlen]; exact HL.out.ln.symm) hnm
                  have e0 := I3.b2.cell 0
                  have e1 := I3.b2.cell 1
                  have e2 := I3.b2.cell 2
                  simp at e0 e1 e2
                  have HV := Lib.hid hrd
                  have HP2 := Lib.hid hp
                  clear I3 hp hlen hrd
                  go_wp2_with fail
                  refine (rvalid_any _ _ _ _ _ _ _ HV.out).mono ?_
                  rintro ee w1 ⟨rfl, hb⟩
                  have I4 := J3.out.step hb
                  have q0 := I4.b1.frozen 0
                  have q1 := I4.b1.frozen 1
                  have q2 := I4.b1.frozen 2
                  have q3 := I4.b1.cell 0
                  have q4 := I4.b1.cell 1
                  have q5 := I4.b1.cell 2
                  simp at q3 q4 q5
                  have J4 := Lib.hid I4
                  clear e0 e1 e2 hb
                  have e0 := I4.b2.cell 0
                  have e1 := I4.b2.cell 1
                  have e2 := I4.b2.cell 2
                  simp at e0 e1 e2
                  clear I4
                  cases hvb : validB 2 pts rad
                  · have he : (errOf false != 0) = true := by decide
                    go_wp2_with fail
                    refine J4.out.toPaInv.zero.rerr ?_ _ rfl rfl
                    simp [parseV, HD.out, bodyOf, HP2.out, hvb]
                  · have he : (errOf true != 0) = false := by decide
                    go_wp2_with fail
                    have Bz : Blk (((w1.setCell ⟨w.heap.size + 1, 0, none⟩ (.int .i64 2)).setCell ⟨w.heap.size + 1, 1, none⟩ (.slice A8 1 c8)).setCell ⟨w.heap.size + 1, 2, none⟩ (.int .i64 rad)) (w.heap.size + 1) 35 #[.int .i64 2, .slice A8 1 c8, .int .i64 rad] := ((J4.out.b1.set_ 0 _).set_ 1 _).set_ 2 _
                    have Be := ((J4.out.bel.setCell (p := ⟨w.heap.size + 1, 0, none⟩) (by show w.heap.size ≤ w.heap.size + 1; omega) (.int .i64 2)).setCell (p := ⟨w.heap.size + 1, 1, none⟩) (by show w.heap.size ≤ w.heap.size + 1; omega) (.slice A8 1 c8)).setCell (p := ⟨w.heap.size + 1, 2, none⟩) (by show w.heap.size ≤ w.heap.size + 1; omega) (.int .i64 rad)
                    have Bo := ownsRow_setCell_below (a := ⟨w.heap.size + 1, 2, none⟩) (ownsRow_setCell_below (a := ⟨w.heap.size + 1, 1, none⟩) (ownsRow_setCell_below (a := ⟨w.heap.size + 1, 0, none⟩) J4.out.own (by show w.heap.size + 1 < w.heap.size + 3; omega) (.int .i64 2)) (by show w.heap.size + 1 < w.heap.size + 3; omega) (.slice A8 1 c8)) (by show w.heap.size + 1 < w.heap.size + 3; omega) (.int .i64 rad)
                    obtain ⟨A9, c9, h9, hrd9⟩ := RdPts.of_own Bo (by rw [ptsOf_length HP2.out]; exact HL.out.ln.symm) hnm
                    cases h9
                    refine bodyPost_ret (results_shp_err rfl _ _ rfl _ rfl _ _ _ _ _ _ Bz) rfl (.inr ⟨2, pts, rad, A8, 1, c8, ?_, rfl, hrd9, Be⟩)
                    simp [parseV, HD.out, bodyOf, HP2.out, hvb]
            · exact absurd hgt (by decide)
          · go_enter Try.func24, Try.ntmps24
            go_wp2_with (go_at_call 41; refine HK.out.mono ?_; rintro _ _ ⟨rfl, rfl⟩)
            refine (I0.out 2 0).rerr (parseV_none ?_) _ rfl rfl
            rw [HH'.out, hl]
            simp at hk3
            simp [hkd, ← hek.out, hk3]
        · go_enter Try.func24, Try.ntmps24
          go_wp2_with (go_at_call 41; refine HK.out.mono ?_; rintro _ _ ⟨rfl, rfl⟩)
          refine (I0.out 2 0).rerr (parseV_none ?_) _ rfl rfl
          rw [HH'.out, if_pos (by rfl), hkd, if_pos (by rfl)]
          have hlen := HLN.out
          simp at hl2
          split
          · rename_i hq
            rw [hq] at hlen
            simp at hlen
            omega
          · rfl
    · go_enter Try.func24, Try.ntmps24
      go_wp2_with fail
      refine bodyPost_ret (results_shp_err rfl _ _ rfl _ rfl _ _ _ _ _ _ (Blk.new_at (by simp))) rfl (.inl ⟨parseV_none ?_, rfl, ((Below.refl _ _).alloc (Nat.le_refl _) _).alloc (by simp) _⟩)
      rw [HH.out, ← hfk]
      simp at hk6
      simp [hk6]
  · have HN : Hid (parseV x = none) := by
      refine parseV_none ?_
      have h1 := ho.k
      have h2 := ho.dn
      unfold headOf
      split
      · rename_i hk5 hd
        exact absurd ⟨h1.trans (by simpa using hk5), by rw [h2, hd]; rfl⟩ hk
      · rfl
    obtain ⟨ck, cn, ct, cLA, cln, clc, cDA, cdn, cdc⟩ := c
    simp only at hk
    clear ho
    cases hk5 : (ck != 5)
    · have hd : ((cdn : Int) != 1) = true := by
        have : ck = 5 := by simpa using hk5
        simp
        omega
      clear hk
      go_enter Try.func24, Try.ntmps24
      go_wp2_with fail
      exact bodyPost_ret (results_shp_err rfl _ _ rfl _ rfl _ _ _ _ _ _ (Blk.new_at (by simp))) rfl (.inl ⟨HN.out, rfl, ((Below.refl _ _).alloc (Nat.le_refl _) _).alloc (by simp) _⟩)
    · clear hk
      go_enter Try.func24, Try.ntmps24
      go_wp2_with fail
      exact bodyPost_ret (results_shp_err rfl _ _ rfl _ rfl _ _ _ _ _ _ (Blk.new_at (by simp))) rfl (.inl ⟨HN.out, rfl, ((Below.refl _ _).alloc (Nat.le_refl _) _).alloc (by simp) _⟩)

end Go.Proofs.Ytefolbfopjfbcaa
