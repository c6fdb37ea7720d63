/- The contract of value.clone. -/
import Derived.Test.YtckeccfbadlhhaaDoorValFind
import Derived.Test.YtckeccfbadlhhaaDoorValMem
namespace Go.Proofs.YtckeccfbadlhhaaDoor
open Go.RowKit

set_option maxRecDepth 100000 in
set_option maxHeartbeats 4000000 in
theorem clone_any (x : Val) : ∀ (c : VC) (w : World), RW w c x → Calls Tryd.prog 46 #[c.val] w (CloneOk w x) := by
  induction x using Val.ind with
  | h k n t l d ihl ihd =>
  intro c w h
  obtain ⟨ck, cn, ct, LA, ln, lc, DA, dn, dc⟩ := c
  obtain ⟨i0, hi0, hz0, hz1, hz2⟩ := info_parts info_value
  obtain ⟨j0, hj0, hy0, hy1, hy2⟩ := info_parts info_field
  have ho := h.open
  have hls : ln * 80 ≤ 140737488355328 := ho.lsz
  have hds : dn * 96 ≤ 140737488355328 := ho.dsz
  have hll : ln = l.length := ho.ln
  have hdl : dn = d.length := ho.dn
  have hmk := run_make_rowN (P := Tryd.prog) 22 25 i0 VC.zero.val Tryd.underlying22 hi0 hz0 ln (by rw [hz2]; omega) (by omega)
  have hmd := run_make_rowN (P := Tryd.prog) 23 42 j0 (.agg (#[.string ByteArray.empty] ++ VC.zero.arr)) Tryd.underlying23 hj0 hy0 dn (by rw [hy2]; omega) (by omega)
  rw [hz1] at hmk
  rw [hy1] at hmd
  have hln : ln ≤ 140737488355328 := by omega
  have hdn : dn ≤ 140737488355328 := by omega
  have HLL := Lib.hid hll
  have HDL := Lib.hid hdl
  clear hll hdl
  have HI := Lib.hid ihl
  have HJ := Lib.hid ihd
  have HO := Lib.hid ho
  clear ihl ihd ho h hi0 hz0 hz1 hz2 hj0 hy0 hy1 hy2
  go_enter Tryd.func46, Tryd.ntmps46
  go_upto_if 18 with fail
  go_cut [] (fun wx => ∃ r, CSt w ⟨ck, cn, ct, LA, ln, lc, DA, dn, dc⟩ (.mk k n t l d) wx r)
  case first =>
    by_cases hl0 : 0 < ln
    · obtain ⟨b, off, hLA, _, hel⟩ := HO.out.la hl0
      have hLA' : LA = some ⟨b, off, none⟩ := hLA
      subst hLA'
      have HEL := Lib.hid hel
      clear hLA hel
      have hd : decide (0 < ln) = true := by simpa using hl0
      rw [hd]
      clear hd
      go_wp2_with fail
      go_loopw [4, 5, 27] (fun v4 v5 v27 wr => ∃ i : Nat, i ≤ ln ∧ v27 = .int .i64 i ∧ CL w ⟨ck, cn, ct, some ⟨b, off, none⟩, ln, lc, DA, dn, dc⟩ l i wr) (fun _ _ v27 _ => ln - (intOf v27).toNat)
      case atStart =>
        refine ⟨0, Nat.zero_le _, rfl, ⟨((Blk.new_at rfl).alloc _).alloc _ |>.alloc _, ((Blk.new_at (by simp)).alloc _).alloc _, (Blk.new_at (by simp)).alloc _, ⟨_, Blk.new_at (by simp), size_madeCells _ _⟩, fun j y hj => by omega, ((((Below.refl _ _).alloc (Nat.le_refl _) _).alloc (by simp) _).alloc (by simp; omega) _).alloc (by simp; omega) _⟩⟩
      case round =>
        obtain ⟨i, hi, rfl, I⟩ := hrel
        have J := Lib.hid I
        by_cases hlt : i < ln
        · obtain ⟨y, hy⟩ : ∃ y, l[i]? = some y := ⟨_, List.getElem?_eq_getElem (by have := HLL.out; omega)⟩
          obtain ⟨u, hu, hr⟩ := HEL.out i y hy
          have hr' := hr.lt.step' I.bel
          obtain ⟨u0, u1, u2, u3, u4⟩ := hu.keep (I.bel.block b hu.lt)
          have HY := Lib.hid hy
          have HR := Lib.hid hr'
          have HC := Lib.hid (HI.out y (List.mem_of_getElem? hy))
          have hb : b < wr.heap.size := by have := hu.lt; have := I.bel.size; omega
          have r3 := I.b2.cell 3
          simp at r3
          clear hy hr hr' hu I hmk hmd
          go_wp2_with fail
          have K := J.out.step ((Below.refl wr.heap.size wr).alloc (Nat.le_refl _) (Obj.cells u.arr 25))
          have KB : Blk (wr.alloc (Obj.cells u.arr 25)) wr.heap.size 25 u.arr := Blk.new_at rfl
          have KR := HR.out.alloc (Obj.cells u.arr 25)
          clear HR u0 u1 u2 u3 u4 r3
          have hga : w.heap.size + 3 < wr.heap.size := J.out.row.lt
          generalize wr.alloc (Obj.cells u.arr 25) = wa at *
          generalize wr.heap.size = ga at *
          have hne : w.heap.size + 3 ≠ ga := by omega
          obtain ⟨u0, u1, u2, u3, u4⟩ := VAt.of_blk KB
          simp only [Nat.zero_add] at u1 u2 u3 u4
          have r3 := K.b2.cell 3
          simp at r3
          have LB := Lib.hid KB
          have LK := Lib.hid K
          have LR := Lib.hid KR
          clear KB K KR
          have hi0 : (0 : Int) ≤ (i : Int) := by omega
          have hi1 : (i : Int) < (ln : Int) := by omega
          go_region_held3 (fun w' => w'.cell? ⟨w.heap.size + 2, 3, none⟩ = some (.slice (some ⟨w.heap.size + 3, 0, none⟩) ln ln) ∧ w'.cell? ⟨ga, 0, none⟩ = some (.int .i64 u.k) ∧ w'.cell? ⟨ga, 1, none⟩ = some (.int .i64 u.n) ∧ w'.cell? ⟨ga, 2, none⟩ = some (.string u.t) ∧ w'.cell? ⟨ga, 3, none⟩ = some (.slice u.LA u.ln u.lc) ∧ w'.cell? ⟨ga, 4, none⟩ = some (.slice u.DA u.dn u.dc))
            (first | go_keep | exact ⟨s0, s1, s2, s3, s4, s5⟩ | ((try dsimp only); repeat' apply And.intro; all_goals go_keep))
            ((go_at_call 46; refine (HC.out u _ (LR.out.drewN 1)).mono ?_; rintro e w1 ⟨c', mid, rfl, hcl, hb1⟩; replace hb1 : Below wa.heap.size wa w1 := hb1.undrewN; replace hcl : Cl wa.heap.size mid w1 c' y := hcl; have s0 := (hb1.cell (p := ⟨w.heap.size + 2, 3, none⟩) LK.out.b2.lt).trans r3; have s1 := (hb1.cell (p := ⟨ga, 0, none⟩) LB.out.lt).trans u0; have s2 := (hb1.cell (p := ⟨ga, 1, none⟩) LB.out.lt).trans u1; have s3 := (hb1.cell (p := ⟨ga, 2, none⟩) LB.out.lt).trans u2; have s4 := (hb1.cell (p := ⟨ga, 3, none⟩) LB.out.lt).trans u3; have s5 := (hb1.cell (p := ⟨ga, 4, none⟩) LB.out.lt).trans u4; have row : Row w1 (w.heap.size + 3) 25 (ln * 5) := (LK.out.step hb1).row; have z := row.frozen; obtain ⟨o0, p0⟩ := row.cell (i := i * 5) (by omega); obtain ⟨o1, p1⟩ := row.cell (i := i * 5 + 1) (by omega); obtain ⟨o2, p2⟩ := row.cell (i := i * 5 + 2) (by omega); obtain ⟨o3, p3⟩ := row.cell (i := i * 5 + 3) (by omega); obtain ⟨o4, p4⟩ := row.cell (i := i * 5 + 4) (by omega); have LC := Lib.hid hcl; have LX := Lib.hid (LK.out.step hb1); clear hcl hb1 row))
          clear s0 s1 s2 s3 s4 s5 p0 p1 p2 p3 p4 z u0 u1 u2 u3 u4 r3
          go_wp2_with fail
          go_roundw
          case rel => exact ⟨i + 1, by omega, by go_num, LX.out.next hlt HY.out (LC.out.rv.mono fun q hq => by have := LK.out.row.lt; omega)⟩
          case measure => simp [intOf]; omega
        · obtain rfl : i = ln := by omega
          clear hmk hmd
          go_wp2_with fail
          go_meet
          exact ⟨_, I.b0, I.b1, I.b2, I.bel, ⟨rfl, rfl, rfl, rfl, rfl, rfl, rfl, rfl⟩, fun h => absurd h (by show i ≠ 0; omega), fun _ => ⟨w.heap.size + 3, rfl, Nat.le_refl _, I.row, fun j y hj => I.el j y (by have := (List.getElem?_eq_some_iff.1 hj).1; have := HLL.out; simp only [Val.l] at *; omega) hj⟩⟩
    · have hz : ln = 0 := by omega
      have hz' : decide ((0 : Int) < (ln : Int)) = false := by simp; omega
      subst hz
      clear hmk hmd
      go_wp2_with fail
      go_meet
      exact ⟨⟨ck, cn, ct, none, 0, 0, none, 0, 0⟩, ((Blk.new_at rfl).alloc _).alloc _, (Blk.new_at (by simp)).alloc _, Blk.new_at (by simp), (((Below.refl _ _).alloc (Nat.le_refl _) _).alloc (by simp) _).alloc (by simp; omega) _, ⟨rfl, rfl, rfl, rfl, rfl, rfl, rfl, rfl⟩, fun _ => rfl, fun h => absurd h (Nat.lt_irrefl 0)⟩
  case rest =>
    obtain ⟨r, I⟩ := hcut
    obtain ⟨rk, rn, rt, rLA, rln, rlc, rDA, rdn, rdc⟩ := r
    have he := I.e
    simp only at he
    obtain ⟨rfl, rfl, rfl, rfl, rfl, rfl, rfl, rfl⟩ := he
    have e4 := I.b0.cell 4
    simp at e4
    have J := Lib.hid I
    clear I hmk
    go_upto_if 42 with fail
    go_cut [] (fun wx => ∃ r mid, CE w (.mk k n t l d) r mid wx)
    case first =>
      by_cases hd0 : 0 < dn
      · obtain ⟨b, off, hDA, _, hel⟩ := HO.out.da hd0
        have hDA' : DA = some ⟨b, off, none⟩ := hDA
        subst hDA'
        have HEL := Lib.hid hel
        clear hDA hel
        have hd : decide (0 < dn) = true := by simpa using hd0
        rw [hd]
        clear hd
        have g0 := J.out.b2.cell 4
        have z0 := J.out.b2.frozen 4
        have l0 := J.out.b0.lt
        have l2 := J.out.b2.lt
        simp at g0
        go_wp2_with fail
        go_loopw [6, 7, 51] (fun v6 v7 v51 wr => ∃ i : Nat, i ≤ dn ∧ v51 = .int .i64 i ∧ CD w ⟨rk, rn, rt, LA, rlc, lc, some ⟨b, off, none⟩, dn, dc⟩ ⟨rk, rn, rt, rLA, rlc, rlc, none, 0, 0⟩ wc.heap.size l d i wr) (fun _ _ v51 _ => dn - (intOf v51).toNat)
        case atStart =>
          refine ⟨0, Nat.zero_le _, rfl, ?_⟩
          exact CD.start J.out
        case round =>
          obtain ⟨i, hi, rfl, I⟩ := hrel
          have J2 := Lib.hid I
          clear g0 z0 e4 hmd
          by_cases hlt : i < dn
          · obtain ⟨f, hf⟩ : ∃ f, d[i]? = some f := ⟨_, List.getElem?_eq_getElem (by have := HDL.out; omega)⟩
            obtain ⟨hs, hz, u, hu, hr⟩ := HEL.out i f hf
            have hr' := hr.lt.step' I.bel
            have s0 := (I.bel.cell (p := ⟨b, off + i * 6, none⟩) hu.lt).trans hs
            obtain ⟨u0, u1, u2, u3, u4⟩ := hu.keep (I.bel.block b hu.lt)
            have HY := Lib.hid hf
            have HR := Lib.hid hr'
            have HC := Lib.hid (HJ.out f (List.mem_of_getElem? hf))
            have hb : b < wr.heap.size := by have := hu.lt; have := I.bel.size; omega
            have r3 := I.b2.cell 4
            simp at r3
            clear hf hr hr' hu I hs hz
            go_wp2_with fail
            have K := J2.out.step ((Below.refl wr.heap.size wr).alloc (Nat.le_refl _) (Obj.cells #[.string f.s, .int .i64 u.k, .int .i64 u.n, .string u.t, .slice u.LA u.ln u.lc, .slice u.DA u.dn u.dc] 42))
            have KB : Blk (wr.alloc (Obj.cells #[.string f.s, .int .i64 u.k, .int .i64 u.n, .string u.t, .slice u.LA u.ln u.lc, .slice u.DA u.dn u.dc] 42)) wr.heap.size 42 #[.string f.s, .int .i64 u.k, .int .i64 u.n, .string u.t, .slice u.LA u.ln u.lc, .slice u.DA u.dn u.dc] := Blk.new_at rfl
            have KR := HR.out.alloc (Obj.cells #[.string f.s, .int .i64 u.k, .int .i64 u.n, .string u.t, .slice u.LA u.ln u.lc, .slice u.DA u.dn u.dc] 42)
            have hga : wc.heap.size < wr.heap.size := J2.out.row.lt
            clear HR u0 u1 u2 u3 u4 r3 s0
            generalize wr.alloc (Obj.cells #[.string f.s, .int .i64 u.k, .int .i64 u.n, .string u.t, .slice u.LA u.ln u.lc, .slice u.DA u.dn u.dc] 42) = wa at *
            generalize wr.heap.size = ga at *
            have hne : wc.heap.size ≠ ga := by omega
            have hne2 : wc.heap.size ≠ w.heap.size + 2 := by omega
            have f0 := KB.cell 0
            have f1 := KB.cell 1
            have f2 := KB.cell 2
            have f3 := KB.cell 3
            have f4 := KB.cell 4
            have f5 := KB.cell 5
            have r3 := K.b2.cell 4
            simp at r3 f0 f1 f2 f3 f4 f5
            have LB := Lib.hid KB
            have LK := Lib.hid K
            have LR := Lib.hid KR
            clear KB K KR
            have hi0 : (0 : Int) ≤ (i : Int) := by omega
            have hi1 : (i : Int) < (dn : Int) := by omega
            go_region_held3 (fun w' => w'.cell? ⟨w.heap.size + 2, 4, none⟩ = some (.slice (some ⟨wc.heap.size, 0, none⟩) dn dn) ∧ w'.cell? ⟨ga, 0, none⟩ = some (.string f.s) ∧ w'.cell? ⟨ga, 1, none⟩ = some (.int .i64 u.k) ∧ w'.cell? ⟨ga, 2, none⟩ = some (.int .i64 u.n) ∧ w'.cell? ⟨ga, 3, none⟩ = some (.string u.t) ∧ w'.cell? ⟨ga, 4, none⟩ = some (.slice u.LA u.ln u.lc) ∧ w'.cell? ⟨ga, 5, none⟩ = some (.slice u.DA u.dn u.dc))
              (first | go_keep | exact ⟨s0, s6, s1, s2, s3, s4, s5⟩ | ((try dsimp only); repeat' apply And.intro; all_goals go_keep))
              ((go_at_call 46; refine (HC.out u _ (LR.out.drewN 1)).mono ?_; rintro e w1 ⟨c', mid, rfl, hcl, hb1⟩; replace hb1 : Below wa.heap.size wa w1 := hb1.undrewN; replace hcl : Cl wa.heap.size mid w1 c' f.v := hcl; have s0 := (hb1.cell (p := ⟨w.heap.size + 2, 4, none⟩) LK.out.b2.lt).trans r3; have s6 := (hb1.cell (p := ⟨ga, 0, none⟩) LB.out.lt).trans f0; have s1 := (hb1.cell (p := ⟨ga, 1, none⟩) LB.out.lt).trans f1; have s2 := (hb1.cell (p := ⟨ga, 2, none⟩) LB.out.lt).trans f2; have s3 := (hb1.cell (p := ⟨ga, 3, none⟩) LB.out.lt).trans f3; have s4 := (hb1.cell (p := ⟨ga, 4, none⟩) LB.out.lt).trans f4; have s5 := (hb1.cell (p := ⟨ga, 5, none⟩) LB.out.lt).trans f5; have row : Row w1 wc.heap.size 42 (dn * 6) := (LK.out.step hb1).row; have z := row.frozen; obtain ⟨o0, p0⟩ := row.cell (i := i * 6) (by omega); obtain ⟨o1, p1⟩ := row.cell (i := i * 6 + 1) (by omega); obtain ⟨o2, p2⟩ := row.cell (i := i * 6 + 2) (by omega); obtain ⟨o3, p3⟩ := row.cell (i := i * 6 + 3) (by omega); obtain ⟨o4, p4⟩ := row.cell (i := i * 6 + 4) (by omega); obtain ⟨o5, p5⟩ := row.cell (i := i * 6 + 5) (by omega); have LC := Lib.hid hcl; have LX := Lib.hid (LK.out.step hb1); clear hcl hb1 row))
            clear s0 s1 s2 s3 s4 s5 s6 p0 p1 p2 p3 p4 p5 z f0 f1 f2 f3 f4 f5 r3
            go_wp2_with fail
            go_roundw
            case rel => exact ⟨i + 1, by omega, by go_num, LX.out.next hlt HY.out (LC.out.rv.mono fun q hq => by have := LK.out.row.lt; omega)⟩
            case measure => simp [intOf]; omega
          · obtain rfl : i = dn := by omega
            go_wp2_with fail
            go_meet
            exact ⟨_, wc.heap.size, CE.of_cd J2.out HO.out (by have := HDL.out; omega) J.out.l0 hd0⟩
      · have hz : dn = 0 := by omega
        subst hz
        clear hmd
        have hd : decide (0 < 0) = false := by decide
        rw [hd]
        clear hd
        go_wp2_with fail
        go_meet
        exact ⟨_, wc.heap.size, CE.of_cst J.out HO.out⟩
    case rest =>
      obtain ⟨r, mid, I⟩ := hcut
      have J3 := Lib.hid I
      obtain ⟨a0, a1, a2, a3, a4⟩ := VAt.of_blk I.b2
      obtain ⟨b0, b1, b2, b3, b4⟩ := VAt.of_blk I.b1
      have z := I.b1.frozen
      clear I e4 hmd
      go_wp2_with fail
      have q := VAt.of_blk (J3.out.b1.putV r)
      refine bodyPost_ret (results_val rfl _ _ _ rfl _ r q) rfl ?_
      exact CE.done J3.out

end Go.Proofs.YtckeccfbadlhhaaDoor
