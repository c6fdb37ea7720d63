/- Parts of the proof, joined: ValFind, ValClone, ValGet, ShAt, ShKv, ValUtf8Pure. -/
import Derived.Test.YtlmmgjgkmbmgpaaGreatDoorB1
import Derived.Test.YtlmmgjgkmbmgpaaGreatDoorB2
import Derived.Test.YtlmmgjgkmbmgpaaGreatDoorB12
import Derived.Test.YtlmmgjgkmbmgpaaGreatDoorB4
import Derived.Lib.ValidLaws
/- Contracts of value.find and of the reference's at. -/
namespace Go.Proofs.YtlmmgjgkmbmgpaaGreatDoor
open Go.RowKit

/-- the index of the first field with a name, -1 if there is none -/
def findFrom (name : ByteArray) : List Fld → Nat → Int
  | [], _ => -1
  | f :: r, i => if f.s.toList == name.toList then (i : Int) else findFrom name r (i + 1)
def findI (x : Val) (name : ByteArray) : Int := if x.k == 5 then findFrom name x.d 0 else -1

set_option maxHeartbeats 1000000 in
theorem find_any (x : Val) (c : VC) (name : ByteArray) (w : World) (h : RW w c x) :
    Calls Tryz.prog 90 #[c.val, .string name] w fun e w' => e = .returned (.int .i64 (findI x name)) ∧ Below w.heap.size w w' := by
  have HO := Lib.hid h.open
  clear h
  cases hk : (c.k != 5)
  · have hn : c.dn ≤ 140737488355328 := by have := HO.out.dsz; unfold reach at this; omega
    have HE : Hid (findI x name = findFrom name x.d 0) := by
      have := HO.out.k
      simp at hk
      simp [findI, ← this, hk, Hid]
    go_enter Tryz.func90, Tryz.ntmps90
    go_wp2_with fail
    go_loopw [4, 5, 12] (fun v4 v5 v12 wr => ∃ i : Nat, i ≤ c.dn ∧ v4 = .int .i64 0 ∧ v12 = .int .i64 i ∧ findFrom name x.d 0 = findFrom name (x.d.drop i) i ∧ Blk wr w.heap.size 46 c.arr ∧ Below w.heap.size w wr) (fun _ _ v12 _ => c.dn - (intOf v12).toNat)
    case atStart => exact ⟨0, Nat.zero_le _, rfl, rfl, rfl, Blk.new_at rfl, (Below.refl _ _).alloc (Nat.le_refl _) _⟩
    case round =>
      obtain ⟨i, hi, rfl, rfl, hall, N1, N2⟩ := hrel
      have e4 := N1.cell 4
      simp at e4
      have HA := Lib.hid hall
      clear hall
      by_cases hlt : i < c.dn
      · obtain ⟨b, off, hDA, _, hel⟩ := HO.out.da (by omega)
        obtain ⟨f, hf⟩ : ∃ f, x.d[i]? = some f := ⟨_, List.getElem?_eq_getElem (by have := HO.out.dn; omega)⟩
        obtain ⟨hs, _, _⟩ := hel i f hf
        have hs' := (N2.cell (p := ⟨b, off + i * 6, none⟩) (World.block_lt_of_cell? w _ hs)).trans hs
        rw [hDA] at e4
        have HD := Lib.hid (drop_of hf)
        have J1 := Lib.hid N1
        have J2 := Lib.hid N2
        clear hs hel hf hDA N1 N2
        cases hq : (f.s.toList == name.toList)
        · have HF : Hid (findFrom name x.d 0 = findFrom name (x.d.drop (i + 1)) (i + 1)) := by rw [Hid, HA.out, HD.out, findFrom, hq]; rfl
          go_wp2_with fail
          go_roundw
          case rel => exact ⟨i + 1, by omega, rfl, by go_num, HF.out, J1.out, J2.out⟩
          case measure => simp [intOf]; omega
        · have HF : Hid (findFrom name x.d 0 = (i : Int)) := by rw [Hid, HA.out, HD.out, findFrom, hq]; rfl
          go_wp2_with fail
          go_ret
          exact ⟨by rw [HE.out, HF.out]; rfl, J2.out⟩
      · have HF : Hid (findFrom name x.d 0 = -1) := by rw [Hid, HA.out, List.drop_of_length_le (by have := HO.out.dn; omega)]; rfl
        have J2 := Lib.hid N2
        clear N1 N2
        go_wp2_with fail
        go_ret
        exact ⟨by rw [HE.out, HF.out]; rfl, J2.out⟩
  · have HE : Hid (findI x name = -1) := by
      have := HO.out.k
      simp at hk
      simp [findI, ← this, hk, Hid]
    go_enter Tryz.func90, Tryz.ntmps90
    go_wp2_with fail
    go_ret
    exact ⟨by rw [HE.out]; rfl, (Below.refl _ _).alloc (Nat.le_refl _) _⟩

end Go.Proofs.YtlmmgjgkmbmgpaaGreatDoor

/- The contract of value.clone. -/
namespace Go.Proofs.YtlmmgjgkmbmgpaaGreatDoor
open Go.RowKit

set_option maxRecDepth 100000 in
set_option maxHeartbeats 4000000 in
theorem clone_any (x : Val) : ∀ (c : VC) (w : World), RW w c x → Calls Tryz.prog 91 #[c.val] w (CloneOk w x) := by
  induction x using Val.ind with
  | h k n t l d ihl ihd =>
  intro c w h
  obtain ⟨ck, cn, ct, LA, ln, lc, DA, dn, dc⟩ := c
  obtain ⟨i0, hi0, hz0, hz1, hz2⟩ := info_parts info_value
  obtain ⟨j0, hj0, hy0, hy1, hy2⟩ := info_parts info_field
  have ho := h.open
  have hls : ln * 80 ≤ 140737488355328 := ho.lsz
  have hds : dn * 96 ≤ 140737488355328 := ho.dsz
  have hll : ln = l.length := ho.ln
  have hdl : dn = d.length := ho.dn
  have hmk := run_make_rowN (P := Tryz.prog) 28 46 i0 VC.zero.val Tryz.underlying28 hi0 hz0 ln (by rw [hz2]; omega) (by omega)
  have hmd := run_make_rowN (P := Tryz.prog) 44 98 j0 (.agg (#[.string ByteArray.empty] ++ VC.zero.arr)) Tryz.underlying44 hj0 hy0 dn (by rw [hy2]; omega) (by omega)
  rw [hz1] at hmk
  rw [hy1] at hmd
  have hln : ln ≤ 140737488355328 := by omega
  have hdn : dn ≤ 140737488355328 := by omega
  have HLL := Lib.hid hll
  have HDL := Lib.hid hdl
  clear hll hdl
  have HI := Lib.hid ihl
  have HJ := Lib.hid ihd
  have HO := Lib.hid ho
  clear ihl ihd ho h hi0 hz0 hz1 hz2 hj0 hy0 hy1 hy2
  go_enter Tryz.func91, Tryz.ntmps91
  go_upto_if 18 with fail
  go_cut [] (fun wx => ∃ r, CSt w ⟨ck, cn, ct, LA, ln, lc, DA, dn, dc⟩ (.mk k n t l d) wx r)
  case first =>
    by_cases hl0 : 0 < ln
    · obtain ⟨b, off, hLA, _, hel⟩ := HO.out.la hl0
      have hLA' : LA = some ⟨b, off, none⟩ := hLA
      subst hLA'
      have HEL := Lib.hid hel
      clear hLA hel
      have hd : decide (0 < ln) = true := by simpa using hl0
      rw [hd]
      clear hd
      go_wp2_with fail
      go_loopw [4, 5, 27] (fun v4 v5 v27 wr => ∃ i : Nat, i ≤ ln ∧ v27 = .int .i64 i ∧ CL w ⟨ck, cn, ct, some ⟨b, off, none⟩, ln, lc, DA, dn, dc⟩ l i wr) (fun _ _ v27 _ => ln - (intOf v27).toNat)
      case atStart =>
        refine ⟨0, Nat.zero_le _, rfl, ⟨((Blk.new_at rfl).alloc _).alloc _ |>.alloc _, ((Blk.new_at (by simp)).alloc _).alloc _, (Blk.new_at (by simp)).alloc _, ⟨_, Blk.new_at (by simp), size_madeCells _ _⟩, fun j y hj => by omega, ((((Below.refl _ _).alloc (Nat.le_refl _) _).alloc (by simp) _).alloc (by simp; omega) _).alloc (by simp; omega) _⟩⟩
      case round =>
        obtain ⟨i, hi, rfl, I⟩ := hrel
        have J := Lib.hid I
        by_cases hlt : i < ln
        · obtain ⟨y, hy⟩ : ∃ y, l[i]? = some y := ⟨_, List.getElem?_eq_getElem (by have := HLL.out; omega)⟩
          obtain ⟨u, hu, hr⟩ := HEL.out i y hy
          have hr' := hr.lt.step' I.bel
          obtain ⟨u0, u1, u2, u3, u4⟩ := hu.keep (I.bel.block b hu.lt)
          have HY := Lib.hid hy
          have HR := Lib.hid hr'
          have HC := Lib.hid (HI.out y (List.mem_of_getElem? hy))
          have hb : b < wr.heap.size := by have := hu.lt; have := I.bel.size; omega
          have r3 := I.b2.cell 3
          simp at r3
          clear hy hr hr' hu I hmk hmd
          go_wp2_with fail
          have K := J.out.step ((Below.refl wr.heap.size wr).alloc (Nat.le_refl _) (Obj.cells u.arr 46))
          have KB : Blk (wr.alloc (Obj.cells u.arr 46)) wr.heap.size 46 u.arr := Blk.new_at rfl
          have KR := HR.out.alloc (Obj.cells u.arr 46)
          clear HR u0 u1 u2 u3 u4 r3
          have hga : w.heap.size + 3 < wr.heap.size := J.out.row.lt
          generalize wr.alloc (Obj.cells u.arr 46) = wa at *
          generalize wr.heap.size = ga at *
          have hne : w.heap.size + 3 ≠ ga := by omega
          obtain ⟨u0, u1, u2, u3, u4⟩ := VAt.of_blk KB
          simp only [Nat.zero_add] at u1 u2 u3 u4
          have r3 := K.b2.cell 3
          simp at r3
          have LB := Lib.hid KB
          have LK := Lib.hid K
          have LR := Lib.hid KR
          clear KB K KR
          have hi0 : (0 : Int) ≤ (i : Int) := by omega
          have hi1 : (i : Int) < (ln : Int) := by omega
          go_region_held3 (fun w' => w'.cell? ⟨w.heap.size + 2, 3, none⟩ = some (.slice (some ⟨w.heap.size + 3, 0, none⟩) ln ln) ∧ w'.cell? ⟨ga, 0, none⟩ = some (.int .i64 u.k) ∧ w'.cell? ⟨ga, 1, none⟩ = some (.int .i64 u.n) ∧ w'.cell? ⟨ga, 2, none⟩ = some (.string u.t) ∧ w'.cell? ⟨ga, 3, none⟩ = some (.slice u.LA u.ln u.lc) ∧ w'.cell? ⟨ga, 4, none⟩ = some (.slice u.DA u.dn u.dc))
            (first | go_keep | exact ⟨s0, s1, s2, s3, s4, s5⟩ | ((try dsimp only); repeat' apply And.intro; all_goals go_keep))
            ((go_at_call 91; refine (HC.out u _ (LR.out.drewN 1)).mono ?_; rintro e w1 ⟨c', mid, rfl, hcl, hb1⟩; replace hb1 : Below wa.heap.size wa w1 := hb1.undrewN; replace hcl : Cl wa.heap.size mid w1 c' y := hcl; have s0 := (hb1.cell (p := ⟨w.heap.size + 2, 3, none⟩) LK.out.b2.lt).trans r3; have s1 := (hb1.cell (p := ⟨ga, 0, none⟩) LB.out.lt).trans u0; have s2 := (hb1.cell (p := ⟨ga, 1, none⟩) LB.out.lt).trans u1; have s3 := (hb1.cell (p := ⟨ga, 2, none⟩) LB.out.lt).trans u2; have s4 := (hb1.cell (p := ⟨ga, 3, none⟩) LB.out.lt).trans u3; have s5 := (hb1.cell (p := ⟨ga, 4, none⟩) LB.out.lt).trans u4; have row : Row w1 (w.heap.size + 3) 46 (ln * 5) := (LK.out.step hb1).row; have z := row.frozen; obtain ⟨o0, p0⟩ := row.cell (i := i * 5) (by omega); obtain ⟨o1, p1⟩ := row.cell (i := i * 5 + 1) (by omega); obtain ⟨o2, p2⟩ := row.cell (i := i * 5 + 2) (by omega); obtain ⟨o3, p3⟩ := row.cell (i := i * 5 + 3) (by omega); obtain ⟨o4, p4⟩ := row.cell (i := i * 5 + 4) (by omega); have LC := Lib.hid hcl; have LX := Lib.hid (LK.out.step hb1); clear hcl hb1 row))
          clear s0 s1 s2 s3 s4 s5 p0 p1 p2 p3 p4 z u0 u1 u2 u3 u4 r3
          go_wp2_with fail
          go_roundw
          case rel => exact ⟨i + 1, by omega, by go_num, LX.out.next hlt HY.out (LC.out.rv.mono fun q hq => by have := LK.out.row.lt; omega)⟩
          case measure => simp [intOf]; omega
        · obtain rfl : i = ln := by omega
          clear hmk hmd
          go_wp2_with fail
          go_meet
          exact ⟨_, I.b0, I.b1, I.b2, I.bel, ⟨rfl, rfl, rfl, rfl, rfl, rfl, rfl, rfl⟩, fun h => absurd h (by show i ≠ 0; omega), fun _ => ⟨w.heap.size + 3, rfl, Nat.le_refl _, I.row, fun j y hj => I.el j y (by have := (List.getElem?_eq_some_iff.1 hj).1; have := HLL.out; simp only [Val.l] at *; omega) hj⟩⟩
    · have hz : ln = 0 := by omega
      have hz' : decide ((0 : Int) < (ln : Int)) = false := by simp; omega
      subst hz
      clear hmk hmd
      go_wp2_with fail
      go_meet
      exact ⟨⟨ck, cn, ct, none, 0, 0, none, 0, 0⟩, ((Blk.new_at rfl).alloc _).alloc _, (Blk.new_at (by simp)).alloc _, Blk.new_at (by simp), (((Below.refl _ _).alloc (Nat.le_refl _) _).alloc (by simp) _).alloc (by simp; omega) _, ⟨rfl, rfl, rfl, rfl, rfl, rfl, rfl, rfl⟩, fun _ => rfl, fun h => absurd h (Nat.lt_irrefl 0)⟩
  case rest =>
    obtain ⟨r, I⟩ := hcut
    obtain ⟨rk, rn, rt, rLA, rln, rlc, rDA, rdn, rdc⟩ := r
    have he := I.e
    simp only at he
    obtain ⟨rfl, rfl, rfl, rfl, rfl, rfl, rfl, rfl⟩ := he
    have e4 := I.b0.cell 4
    simp at e4
    have J := Lib.hid I
    clear I hmk
    go_upto_if 42 with fail
    go_cut [] (fun wx => ∃ r mid, CE w (.mk k n t l d) r mid wx)
    case first =>
      by_cases hd0 : 0 < dn
      · obtain ⟨b, off, hDA, _, hel⟩ := HO.out.da hd0
        have hDA' : DA = some ⟨b, off, none⟩ := hDA
        subst hDA'
        have HEL := Lib.hid hel
        clear hDA hel
        have hd : decide (0 < dn) = true := by simpa using hd0
        rw [hd]
        clear hd
        have g0 := J.out.b2.cell 4
        have z0 := J.out.b2.frozen 4
        have l0 := J.out.b0.lt
        have l2 := J.out.b2.lt
        simp at g0
        go_wp2_with fail
        go_loopw [6, 7, 51] (fun v6 v7 v51 wr => ∃ i : Nat, i ≤ dn ∧ v51 = .int .i64 i ∧ CD w ⟨rk, rn, rt, LA, rlc, lc, some ⟨b, off, none⟩, dn, dc⟩ ⟨rk, rn, rt, rLA, rlc, rlc, none, 0, 0⟩ wc.heap.size l d i wr) (fun _ _ v51 _ => dn - (intOf v51).toNat)
        case atStart =>
          refine ⟨0, Nat.zero_le _, rfl, ?_⟩
          exact CD.start J.out
        case round =>
          obtain ⟨i, hi, rfl, I⟩ := hrel
          have J2 := Lib.hid I
          clear g0 z0 e4 hmd
          by_cases hlt : i < dn
          · obtain ⟨f, hf⟩ : ∃ f, d[i]? = some f := ⟨_, List.getElem?_eq_getElem (by have := HDL.out; omega)⟩
            obtain ⟨hs, hz, u, hu, hr⟩ := HEL.out i f hf
            have hr' := hr.lt.step' I.bel
            have s0 := (I.bel.cell (p := ⟨b, off + i * 6, none⟩) hu.lt).trans hs
            obtain ⟨u0, u1, u2, u3, u4⟩ := hu.keep (I.bel.block b hu.lt)
            have HY := Lib.hid hf
            have HR := Lib.hid hr'
            have HC := Lib.hid (HJ.out f (List.mem_of_getElem? hf))
            have hb : b < wr.heap.size := by have := hu.lt; have := I.bel.size; omega
            have r3 := I.b2.cell 4
            simp at r3
            clear hf hr hr' hu I hs hz
            go_wp2_with fail
            have K := J2.out.step ((Below.refl wr.heap.size wr).alloc (Nat.le_refl _) (Obj.cells #[.string f.s, .int .i64 u.k, .int .i64 u.n, .string u.t, .slice u.LA u.ln u.lc, .slice u.DA u.dn u.dc] 98))
            have KB : Blk (wr.alloc (Obj.cells #[.string f.s, .int .i64 u.k, .int .i64 u.n, .string u.t, .slice u.LA u.ln u.lc, .slice u.DA u.dn u.dc] 98)) wr.heap.size 98 #[.string f.s, .int .i64 u.k, .int .i64 u.n, .string u.t, .slice u.LA u.ln u.lc, .slice u.DA u.dn u.dc] := Blk.new_at rfl
            have KR := HR.out.alloc (Obj.cells #[.string f.s, .int .i64 u.k, .int .i64 u.n, .string u.t, .slice u.LA u.ln u.lc, .slice u.DA u.dn u.dc] 98)
            have hga : wc.heap.size < wr.heap.size := J2.out.row.lt
            clear HR u0 u1 u2 u3 u4 r3 s0
            generalize wr.alloc (Obj.cells #[.string f.s, .int .i64 u.k, .int .i64 u.n, .string u.t, .slice u.LA u.ln u.lc, .slice u.DA u.dn u.dc] 98) = wa at *
            generalize wr.heap.size = ga at *
            have hne : wc.heap.size ≠ ga := by omega
            have hne2 : wc.heap.size ≠ w.heap.size + 2 := by omega
            have f0 := KB.cell 0
            have f1 := KB.cell 1
            have f2 := KB.cell 2
            have f3 := KB.cell 3
            have f4 := KB.cell 4
            have f5 := KB.cell 5
            have r3 := K.b2.cell 4
            simp at r3 f0 f1 f2 f3 f4 f5
            have LB := Lib.hid KB
            have LK := Lib.hid K
            have LR := Lib.hid KR
            clear KB K KR
            have hi0 : (0 : Int) ≤ (i : Int) := by omega
            have hi1 : (i : Int) < (dn : Int) := by omega
            go_region_held3 (fun w' => w'.cell? ⟨w.heap.size + 2, 4, none⟩ = some (.slice (some ⟨wc.heap.size, 0, none⟩) dn dn) ∧ w'.cell? ⟨ga, 0, none⟩ = some (.string f.s) ∧ w'.cell? ⟨ga, 1, none⟩ = some (.int .i64 u.k) ∧ w'.cell? ⟨ga, 2, none⟩ = some (.int .i64 u.n) ∧ w'.cell? ⟨ga, 3, none⟩ = some (.string u.t) ∧ w'.cell? ⟨ga, 4, none⟩ = some (.slice u.LA u.ln u.lc) ∧ w'.cell? ⟨ga, 5, none⟩ = some (.slice u.DA u.dn u.dc))
              (first | go_keep | exact ⟨s0, s6, s1, s2, s3, s4, s5⟩ | ((try dsimp only); repeat' apply And.intro; all_goals go_keep))
              ((go_at_call 91; refine (HC.out u _ (LR.out.drewN 1)).mono ?_; rintro e w1 ⟨c', mid, rfl, hcl, hb1⟩; replace hb1 : Below wa.heap.size wa w1 := hb1.undrewN; replace hcl : Cl wa.heap.size mid w1 c' f.v := hcl; have s0 := (hb1.cell (p := ⟨w.heap.size + 2, 4, none⟩) LK.out.b2.lt).trans r3; have s6 := (hb1.cell (p := ⟨ga, 0, none⟩) LB.out.lt).trans f0; have s1 := (hb1.cell (p := ⟨ga, 1, none⟩) LB.out.lt).trans f1; have s2 := (hb1.cell (p := ⟨ga, 2, none⟩) LB.out.lt).trans f2; have s3 := (hb1.cell (p := ⟨ga, 3, none⟩) LB.out.lt).trans f3; have s4 := (hb1.cell (p := ⟨ga, 4, none⟩) LB.out.lt).trans f4; have s5 := (hb1.cell (p := ⟨ga, 5, none⟩) LB.out.lt).trans f5; have row : Row w1 wc.heap.size 98 (dn * 6) := (LK.out.step hb1).row; have z := row.frozen; obtain ⟨o0, p0⟩ := row.cell (i := i * 6) (by omega); obtain ⟨o1, p1⟩ := row.cell (i := i * 6 + 1) (by omega); obtain ⟨o2, p2⟩ := row.cell (i := i * 6 + 2) (by omega); obtain ⟨o3, p3⟩ := row.cell (i := i * 6 + 3) (by omega); obtain ⟨o4, p4⟩ := row.cell (i := i * 6 + 4) (by omega); obtain ⟨o5, p5⟩ := row.cell (i := i * 6 + 5) (by omega); have LC := Lib.hid hcl; have LX := Lib.hid (LK.out.step hb1); clear hcl hb1 row))
            clear s0 s1 s2 s3 s4 s5 s6 p0 p1 p2 p3 p4 p5 z f0 f1 f2 f3 f4 f5 r3
            go_wp2_with fail
            go_roundw
            case rel => exact ⟨i + 1, by omega, by go_num, LX.out.next hlt HY.out (LC.out.rv.mono fun q hq => by have := LK.out.row.lt; omega)⟩
            case measure => simp [intOf]; omega
          · obtain rfl : i = dn := by omega
            go_wp2_with fail
            go_meet
            exact ⟨_, wc.heap.size, CE.of_cd J2.out HO.out (by have := HDL.out; omega) J.out.l0 hd0⟩
      · have hz : dn = 0 := by omega
        subst hz
        clear hmd
        have hd : decide (0 < 0) = false := by decide
        rw [hd]
        clear hd
        go_wp2_with fail
        go_meet
        exact ⟨_, wc.heap.size, CE.of_cst J.out HO.out⟩
    case rest =>
      obtain ⟨r, mid, I⟩ := hcut
      have J3 := Lib.hid I
      obtain ⟨a0, a1, a2, a3, a4⟩ := VAt.of_blk I.b2
      obtain ⟨b0, b1, b2, b3, b4⟩ := VAt.of_blk I.b1
      have z := I.b1.frozen
      clear I e4 hmd
      go_wp2_with fail
      have q := VAt.of_blk (J3.out.b1.putV r)
      refine bodyPost_ret (results_val rfl _ _ _ rfl _ r q) rfl ?_
      exact CE.done J3.out

end Go.Proofs.YtlmmgjgkmbmgpaaGreatDoor

/- Contracts of value.Get and of the reference's at and Get. -/
namespace Go.Proofs.YtlmmgjgkmbmgpaaGreatDoor
open Go.RowKit

theorem findFrom_range (name : ByteArray) (d : List Fld) : ∀ i : Nat, findFrom name d i = -1 ∨ ∃ j : Nat, findFrom name d i = (i + j : Nat) ∧ j < d.length := by
  induction d with
  | nil => intro i; exact .inl rfl
  | cons f r ih =>
    intro i
    simp only [findFrom]
    split
    · exact .inr ⟨0, by simp, by simp⟩
    · rcases ih (i + 1) with h | ⟨j, h1, h2⟩
      · exact .inl h
      · exact .inr ⟨j + 1, by rw [h1]; congr 1; omega, by simp; omega⟩
theorem findI_range (x : Val) (name : ByteArray) : findI x name = -1 ∨ ∃ j : Nat, findI x name = j ∧ ∃ f, x.d[j]? = some f := by
  unfold findI
  split
  · rcases findFrom_range name x.d 0 with h | ⟨j, h1, h2⟩
    · exact .inl h
    · exact .inr ⟨j, by rw [h1]; simp, _, List.getElem?_eq_getElem h2⟩
  · exact .inl rfl

/-- the field that Get returns -/
def getV (x : Val) (name : ByteArray) : Option Val := if 0 ≤ findI x name then (x.d[(findI x name).toNat]?).map Fld.v else none
theorem getV_none {x : Val} {name : ByteArray} (h : findI x name = -1) : getV x name = none := by simp [getV, h]
theorem getV_some {x : Val} {name : ByteArray} {j : Nat} {f : Fld} (h : findI x name = j) (hf : x.d[j]? = some f) : getV x name = some f.v := by
  simp [getV, h, hf]

theorem results_val_ok {fn : Func} {p u : Tmp} (h : fn.results = #[.cell p 46, .tmp u]) (tmps : Array Value) (g1 off : Nat) (h1 : tmps.getD p undef = .pointer (some ⟨g1, off, none⟩)) (e : Value) (h2 : tmps.getD u undef = e)
    (W : World) (v : VC) (q : VAt W g1 off v) : (results fn tmps).run Tryz.prog W = .ok (.tuple #[v.val, e]) W := by
  obtain ⟨q0, q1, q2, q3, q4⟩ := q
  rw [results_cell_tmp h, h1, h2]
  simp [asAddr, go_sem, q0, q1, q2, q3, q4]

/-- what Get hands back: a copy in new memory, from block lo on -/
def GetOk (x : Val) (name : ByteArray) (w : World) (e : Ending) (w' : World) : Prop :=
  ∃ (c : VC), e = .returned (.tuple #[c.val, .bool (getV x name).isSome]) ∧ RV (fun b => w.heap.size ≤ b) w' c ((getV x name).getD Val.zero) ∧ Below w.heap.size w w'

set_option maxHeartbeats 1000000 in
theorem get_any (x : Val) (c : VC) (name : ByteArray) (w : World) (h : RW w c x) :
    Calls Tryz.prog 51 #[c.val, .string name] w (GetOk x name w) := by
  have H := Lib.hid h
  clear h
  go_enter Tryz.func51, Tryz.ntmps51
  go_wp2_with fail
  refine (find_any x c name _ ((H.out.alloc _).alloc _)).mono ?_
  rintro e w1 ⟨rfl, hb⟩
  have B0 : Blk w1 w.heap.size 46 c.arr := ((Blk.new_at rfl).alloc _).step hb
  have B1 : Blk w1 (w.heap.size + 1) 46 VC.zero.arr := (Blk.new_at (by simp)).step hb
  have B2 : Below w.heap.size w w1 := (((Below.refl _ _).alloc (Nat.le_refl _) _).alloc (by simp) _).trans (hb.mono (by simp; omega))
  clear hb
  have J0 := Lib.hid B0
  have J1 := Lib.hid B1
  have J2 := Lib.hid B2
  obtain ⟨b0, b1, b2, b3, b4⟩ := VAt.of_blk B1
  have e4 := B0.cell 4
  have z := B1.frozen
  simp at e4
  clear B0 B1 B2
  rcases findI_range x name with hf | ⟨j, hf, f, hj⟩
  · have HG := Lib.hid (getV_none hf)
    rw [hf]
    clear hf
    go_wp2_with fail
    have q := VAt.of_blk (J1.out.putV VC.zero)
    refine bodyPost_ret (results_val_ok rfl _ _ _ rfl _ rfl _ VC.zero q) rfl ?_
    refine ⟨VC.zero, ?_, ?_, below_setV J2.out (by omega) 0 VC.zero⟩
    · rw [HG.out]; rfl
    · rw [HG.out]; exact RV.zero
  · have HG := Lib.hid (getV_some hf hj)
    rw [hf]
    clear hf
    have ho := H.out.open
    have hjlt : j < c.dn := by have := (List.getElem?_eq_some_iff.1 hj).1; have := ho.dn; omega
    have hdz : c.dn ≤ 140737488355328 := by have := ho.dsz; unfold reach at this; omega
    obtain ⟨b, off, hDA, _, hel⟩ := ho.da (by omega)
    obtain ⟨_, _, u, hu, hr⟩ := hel j f hj
    rw [hDA] at e4
    obtain ⟨u0, u1, u2, u3, u4⟩ := hu.keep (J2.out.block b hu.lt)
    have HR := Lib.hid (hr.lt.step' J2.out)
    clear ho hel hr hu hDA hj
    go_wp2_with fail
    have hlt : w.heap.size + 1 < w1.heap.size := J1.out.lt
    refine (clone_any f.v u _ HR.out).mono ?_
    rintro e w2 ⟨c', mid, rfl, hcl, hb⟩
    have K1 := J1.out.step hb
    have K2 := J2.out.step' hb
    have LC := Lib.hid hcl
    clear b0 b1 b2 b3 b4 z e4 u0 u1 u2 u3 u4 J0 J1 J2 hcl hb HR
    obtain ⟨b0, b1, b2, b3, b4⟩ := VAt.of_blk K1
    have z := K1.frozen
    have L1 := Lib.hid K1
    have L2 := Lib.hid K2
    clear K1 K2
    go_wp2_with fail
    have q := VAt.of_blk (L1.out.putV c')
    refine bodyPost_ret (results_val_ok rfl _ _ _ rfl _ rfl _ c' q) rfl ?_
    refine ⟨c', ?_, ?_, below_setV L2.out (by omega) 0 c'⟩
    · rw [HG.out]; rfl
    · rw [HG.out]
      exact ((LC.out.keep (w' := setV w2 (w.heap.size + 1) 0 c') fun q hq => heap_setV (by omega)).rv).mono fun q hq => by omega

set_option maxHeartbeats 1000000 in
theorem rat_any (x : Val) (c : VC) (name : ByteArray) (w : World) (h : RW w c x) :
    Calls Tryz.prog 120 #[c.val, .string name] w fun e w' => e = .returned (.int .i64 (findI x name)) ∧ Below w.heap.size w w' := by
  have HO := Lib.hid h.open
  clear h
  cases hk : (c.k != 5)
  · have hn : c.dn ≤ 140737488355328 := by have := HO.out.dsz; unfold reach at this; omega
    have HE : Hid (findI x name = findFrom name x.d 0) := by
      have := HO.out.k
      simp at hk
      simp [findI, ← this, hk, Hid]
    go_enter Tryz.func120, Tryz.ntmps120
    go_wp2_with fail
    go_loopw [4, 5] (fun v4 v5 wr => ∃ i : Nat, i ≤ c.dn ∧ v4 = .int .i64 0 ∧ v5 = .int .i64 i ∧ findFrom name x.d 0 = findFrom name (x.d.drop i) i ∧ Blk wr w.heap.size 46 c.arr ∧ Below w.heap.size w wr) (fun _ v5 _ => c.dn - (intOf v5).toNat)
    case atStart => exact ⟨0, Nat.zero_le _, rfl, rfl, rfl, Blk.new_at rfl, (Below.refl _ _).alloc (Nat.le_refl _) _⟩
    case round =>
      obtain ⟨i, hi, rfl, rfl, hall, N1, N2⟩ := hrel
      have e4 := N1.cell 4
      simp at e4
      have HA := Lib.hid hall
      clear hall
      by_cases hlt : i < c.dn
      · obtain ⟨b, off, hDA, _, hel⟩ := HO.out.da (by omega)
        obtain ⟨f, hf⟩ : ∃ f, x.d[i]? = some f := ⟨_, List.getElem?_eq_getElem (by have := HO.out.dn; omega)⟩
        obtain ⟨hs, _, _⟩ := hel i f hf
        have hs' := (N2.cell (p := ⟨b, off + i * 6, none⟩) (World.block_lt_of_cell? w _ hs)).trans hs
        have e4' := e4
        rw [hDA] at e4
        have HD := Lib.hid (drop_of hf)
        have J1 := Lib.hid N1
        have J2 := Lib.hid N2
        clear hs hel hf hDA N1 N2 e4'
        cases hq : (f.s.toList == name.toList)
        · have HF : Hid (findFrom name x.d 0 = findFrom name (x.d.drop (i + 1)) (i + 1)) := by rw [Hid, HA.out, HD.out, findFrom, hq]; rfl
          go_wp2_with fail
          go_roundw
          case rel => exact ⟨i + 1, by omega, rfl, by go_num, HF.out, J1.out, J2.out⟩
          case measure => simp [intOf]; omega
        · have HF : Hid (findFrom name x.d 0 = (i : Int)) := by rw [Hid, HA.out, HD.out, findFrom, hq]; rfl
          go_wp2_with fail
          go_ret
          exact ⟨by rw [HE.out, HF.out]; rfl, J2.out⟩
      · have HF : Hid (findFrom name x.d 0 = -1) := by rw [Hid, HA.out, List.drop_of_length_le (by have := HO.out.dn; omega)]; rfl
        have J2 := Lib.hid N2
        clear N1 N2
        go_wp2_with fail
        go_ret
        exact ⟨by rw [HE.out, HF.out]; rfl, J2.out⟩
  · have HE : Hid (findI x name = -1) := by
      have := HO.out.k
      simp at hk
      simp [findI, ← this, hk, Hid]
    go_enter Tryz.func120, Tryz.ntmps120
    go_wp2_with fail
    go_ret
    exact ⟨by rw [HE.out]; rfl, (Below.refl _ _).alloc (Nat.le_refl _) _⟩

/-- what the reference's Get hands back: the field itself -/
def RGetOk (x : Val) (name : ByteArray) (w : World) (e : Ending) (w' : World) : Prop :=
  ∃ (c : VC), e = .returned (.tuple #[c.val, .bool (getV x name).isSome]) ∧ RW w' c ((getV x name).getD Val.zero) ∧ Below w.heap.size w w'

/-- the same, with a footprint -/
def RGetF (F : Nat → Prop) (x : Val) (name : ByteArray) (w : World) (e : Ending) (w' : World) : Prop :=
  ∃ (c : VC), e = .returned (.tuple #[c.val, .bool (getV x name).isSome]) ∧ RV F w' c ((getV x name).getD Val.zero) ∧ Below w.heap.size w w'

set_option maxHeartbeats 1000000 in
theorem rget_fp {F : Nat → Prop} (x : Val) (c : VC) (name : ByteArray) (w : World) (h : RV F w c x) :
    Calls Tryz.prog 78 #[c.val, .string name] w (RGetF F x name w) := by
  have H := Lib.hid h
  clear h
  go_enter Tryz.func78, Tryz.ntmps78
  go_wp2_with fail
  refine (rat_any x c name _ (((H.out.mono fun _ _ => trivial).alloc _).alloc _)).mono ?_
  rintro e w1 ⟨rfl, hb⟩
  have B0 : Blk w1 w.heap.size 46 c.arr := ((Blk.new_at rfl).alloc _).step hb
  have B1 : Blk w1 (w.heap.size + 1) 46 VC.zero.arr := (Blk.new_at (by simp)).step hb
  have B2 : Below w.heap.size w w1 := (((Below.refl _ _).alloc (Nat.le_refl _) _).alloc (by simp) _).trans (hb.mono (by simp; omega))
  clear hb
  have J1 := Lib.hid B1
  have J2 := Lib.hid B2
  obtain ⟨b0, b1, b2, b3, b4⟩ := VAt.of_blk B1
  have e4 := B0.cell 4
  have z := B1.frozen
  simp at e4
  clear B0 B1 B2
  rcases findI_range x name with hf | ⟨j, hf, f, hj⟩
  · have HG := Lib.hid (getV_none hf)
    rw [hf]
    clear hf
    go_wp2_with fail
    have q := VAt.of_blk (J1.out.putV VC.zero)
    refine bodyPost_ret (results_val_ok rfl _ _ _ rfl _ rfl _ VC.zero q) rfl ?_
    refine ⟨VC.zero, ?_, ?_, below_setV J2.out (by omega) 0 VC.zero⟩
    · rw [HG.out]; rfl
    · rw [HG.out]; exact RV.zero
  · have HG := Lib.hid (getV_some hf hj)
    rw [hf]
    clear hf
    have ho := H.out.open
    have hjlt : j < c.dn := by have := (List.getElem?_eq_some_iff.1 hj).1; have := ho.dn; omega
    have hdz : c.dn ≤ 140737488355328 := by have := ho.dsz; unfold reach at this; omega
    obtain ⟨b, off, hDA, _, hel⟩ := ho.da (by omega)
    obtain ⟨_, _, u, hu, hr⟩ := hel j f hj
    rw [hDA] at e4
    obtain ⟨u0, u1, u2, u3, u4⟩ := hu.keep (J2.out.block b hu.lt)
    have HR := Lib.hid (hr.lt.keepG (G := fun q => F q ∧ q < w.heap.size) (w' := setV w1 (w.heap.size + 1) 0 u) fun q hq _ => ⟨hq, by rw [heap_setV (by have := hq.2; omega)]; exact J2.out.block q hq.2⟩)
    clear ho hel hr hu hDA hj
    go_wp2_with fail
    have q := VAt.of_blk (J1.out.putV u)
    refine bodyPost_ret (results_val_ok rfl _ _ _ rfl _ rfl _ u q) rfl ?_
    refine ⟨u, ?_, ?_, below_setV J2.out (by omega) 0 u⟩
    · rw [HG.out]; rfl
    · rw [HG.out]
      exact HR.out.mono fun _ h => h.1

theorem rget_any (x : Val) (c : VC) (name : ByteArray) (w : World) (h : RW w c x) :
    Calls Tryz.prog 78 #[c.val, .string name] w (RGetOk x name w) := rget_fp x c name w h

end Go.Proofs.YtlmmgjgkmbmgpaaGreatDoor

/- The contracts of shardkey.at and of the reference's KeyValue. -/
namespace Go.Proofs.YtlmmgjgkmbmgpaaGreatDoor
open Go.RowKit

def nullV : Val := .mk 2 0 ByteArray.empty [] []
def nullC : VC := ⟨2, 0, ByteArray.empty, none, 0, 0, none, 0, 0⟩
theorem rv_null {F : Nat → Prop} {w : World} : RV F w nullC nullV :=
  RVs.shut ⟨rfl, rfl, rfl, by decide, rfl, Nat.le_refl _, by decide, fun h => absurd h (by decide), rfl, Nat.le_refl _, by decide, fun h => absurd h (by decide)⟩
/-- the key value of a document at a path -/
def keyAt : Val → List ByteArray → Option Val
  | x, [] => if x.k = 6 then none else some x
  | x, s :: r => if x.k = 6 then none else match getV x s with
    | none => some nullV
    | some y => keyAt y r
theorem keyAt_list {x : Val} (h : x.k = 6) (l : List ByteArray) : keyAt x l = none := by cases l <;> rw [keyAt, if_pos h]
theorem keyAt_end {x : Val} (h : x.k ≠ 6) : keyAt x [] = some x := by rw [keyAt, if_neg h]
theorem keyAt_none {x : Val} {s : ByteArray} {r : List ByteArray} (h : x.k ≠ 6) (hg : getV x s = none) : keyAt x (s :: r) = some nullV := by rw [keyAt, if_neg h, hg]
theorem keyAt_some {x y : Val} {s : ByteArray} {r : List ByteArray} (h : x.k ≠ 6) (hg : getV x s = some y) : keyAt x (s :: r) = keyAt y r := by rw [keyAt, if_neg h, hg]
theorem getV_kind {x : Val} (s : ByteArray) (h : x.k ≠ 5) : getV x s = none := by
  refine getV_none ?_
  unfold findI
  rw [if_neg (by simpa using h)]

/-- a key value is handed back -/
def AtOk (F : Nat → Prop) (x : Val) (l : List ByteArray) (w : World) (e : Ending) (w' : World) : Prop :=
  ∃ u : VC, e = .returned (.tuple #[u.val, .bool (keyAt x l).isSome]) ∧ (∀ y, keyAt x l = some y → RV (fun b => F b ∨ w.heap.size ≤ b) w' u y) ∧ Below w.heap.size w w'

theorem AtOk.drew {F : Nat → Prop} {x : Val} {l : List ByteArray} {w : World} {e : Ending} {w' : World} (h : AtOk F x l w e w') : AtOk F x l w e w'.drew := by
  obtain ⟨u, h1, h2, h3⟩ := h
  exact ⟨u, h1, fun y hy => (h2 y hy).keep fun _ _ => rfl, h3.drew⟩

structure AtI (F : Nat → Prop) (w : World) (u : VC) (y : Val) (wr : World) : Prop where
  b1 : Blk wr (w.heap.size + 1) 46 VC.zero.arr
  b2 : Blk wr (w.heap.size + 2) 46 nullC.arr
  b3 : Blk wr (w.heap.size + 3) 46 u.arr
  rv : RV (fun b => (F b ∧ b < w.heap.size) ∨ w.heap.size + 4 ≤ b) wr u y
  bel : Below w.heap.size w wr
theorem AtI.step {F : Nat → Prop} {w wr w' : World} {u : VC} {y : Val} (h : AtI F w u y wr) (hb : Below wr.heap.size wr w') : AtI F w u y w' := ⟨h.b1.step hb, h.b2.step hb, h.b3.step hb, h.rv.step hb, h.bel.step' hb⟩
theorem AtI.start {F : Nat → Prop} {w : World} {c : VC} {x : Val} (h : RV F w c x) : AtI F w c x ((((w.alloc (Obj.cells c.arr 46)).alloc (Obj.cells VC.zero.arr 46)).alloc (Obj.cells nullC.arr 46)).alloc (Obj.cells c.arr 46)) := by
  have h1 : Below w.heap.size w ((((w.alloc (Obj.cells c.arr 46)).alloc (Obj.cells VC.zero.arr 46)).alloc (Obj.cells nullC.arr 46)).alloc (Obj.cells c.arr 46)) := ((((Below.refl _ _).alloc (Nat.le_refl _) _).alloc (by simp) _).alloc (by simp; omega) _).alloc (by simp; omega) _
  exact ⟨((Blk.new_at (by simp)).alloc _).alloc _, (Blk.new_at (by simp)).alloc _, Blk.new_at (by simp), h.lt.keepG fun b hb hl => ⟨.inl hb, h1.block b hb.2⟩, h1⟩

theorem at_end {F : Nat → Prop} {w wr w' : World} {u : VC} {y x : Val} {l : List ByteArray} {e : Ending} (h : AtI F w u y wr) (c' : VC) (o : Option Val) (ho : keyAt x l = o) (b : Bool) (hb : b = o.isSome) (he : e = .returned (.tuple #[c'.val, .bool b])) (hw : w' = setV wr (w.heap.size + 1) 0 c') (hr : ∀ z, o = some z → RV (fun b => F b ∨ w.heap.size ≤ b) (setV wr (w.heap.size + 1) 0 c') c' z) : AtOk F x l w e w' := by
  subst ho
  subst hb
  subst he
  subst hw
  exact ⟨c', rfl, hr, below_setV h.bel (by omega) 0 c'⟩
theorem AtI.put {F : Nat → Prop} {w wr : World} {u c' : VC} {y z : Val} (h : AtI F w u y wr) (hr : RV (fun b => w.heap.size + 4 ≤ b) wr c' z) : AtI F w c' z (setV wr (w.heap.size + 3) 0 c') :=
  ⟨h.b1.farV (by omega) 0 c', h.b2.farV (by omega) 0 c', h.b3.putV c', hr.keepG fun b hb _ => ⟨.inr hb, heap_setV (by omega)⟩, below_setV h.bel (by omega) 0 c'⟩
theorem AtI.rvput {F : Nat → Prop} {w wr : World} {u : VC} {y : Val} (h : AtI F w u y wr) : RV (fun b => F b ∨ w.heap.size ≤ b) (setV wr (w.heap.size + 1) 0 u) u y :=
  h.rv.keepG fun b hb _ => ⟨hb.elim (fun q => .inl q.1) (fun q => .inr (by omega)), heap_setV (hb.elim (fun q => by have := q.2; omega) (fun q => by omega))⟩

set_option maxRecDepth 100000 in
set_option maxHeartbeats 800000 in
theorem at_any {F : Nat → Prop} (x : Val) (c : VC) (A : Option Addr) (n cc : Nat) (l : List ByteArray) (w : World) (h : RV F w c x) (hp : ST w A n cc l) :
    Calls Tryz.prog 104 #[c.val, .slice A n cc] w (AtOk F x l w) := by
  have HP := Lib.hid hp
  have HL : Hid (n = l.length) := hp.sr.ln
  have hnz : (n : Int) ≤ 8796093022208 := by have := hp.sz; unfold reach at this; omega
  have I0 := Lib.hid (AtI.start h)
  clear h hp
  go_enter Tryz.func104, Tryz.ntmps104
  go_upto_region 4 with fail
  change Code.wp _ _ _ _ ((((w.alloc (Obj.cells c.arr 46)).alloc (Obj.cells VC.zero.arr 46)).alloc (Obj.cells nullC.arr 46)).alloc (Obj.cells c.arr 46))
  generalize ((((w.alloc (Obj.cells c.arr 46)).alloc (Obj.cells VC.zero.arr 46)).alloc (Obj.cells nullC.arr 46)).alloc (Obj.cells c.arr 46)) = wa at *
  go_loopw [9, 10, 11, 16, 28] (fun _ _ _ u16 _ wr => ∃ (i : Nat) (u : VC) (y : Val), i ≤ n ∧ u16 = .int .i64 i ∧ keyAt x l = keyAt y (l.drop i) ∧ AtI F w u y wr) (fun _ _ _ u16 _ _ => n - (intOf u16).toNat)
  case atStart => exact ⟨0, c, x, Nat.zero_le _, rfl, rfl, I0.out⟩
  case round =>
    obtain ⟨i, u, y, hi, rfl, hk, J⟩ := hrel
    have HK := Lib.hid hk
    have J2 := Lib.hid J
    clear I0 hk J
    have huk : u.k = y.k := J2.out.rv.open.k
    have HUK := Lib.hid huk
    clear huk
    have z1 := J2.out.b1.frozen
    have z3 := J2.out.b3.frozen
    obtain ⟨a0, a1, a2, a3, a4⟩ := VAt.of_blk J2.out.b1
    obtain ⟨n0, n1, n2, n3, n4⟩ := VAt.of_blk J2.out.b2
    obtain ⟨q0, q1, q2, q3, q4⟩ := VAt.of_blk J2.out.b3
    simp only [Nat.zero_add] at a0 a1 a2 a3 a4 n0 n1 n2 n3 n4 q0 q1 q2 q3 q4
    by_cases hlt : i < n
    · obtain ⟨b, off, s, hA, hbw, hs, hcell⟩ := HP.out.sr.at1 hlt
      subst hA
      have hcell2 := (J2.out.bel.cell (p := ⟨b, off + i, none⟩) hbw).trans hcell
      have HD : Hid (l.drop i = s :: l.drop (i + 1)) := drop_of hs
      have i0' : (0 : Int) ≤ (i : Int) := by omega
      have i1' : (i : Int) < (n : Int) := by omega
      clear hs hcell hbw
      by_cases h6 : u.k = 6
      · have HR : Hid (keyAt x l = none) := by rw [Hid, HK.out]; exact keyAt_list (by rw [← HUK.out]; exact h6) _
        have h6b : (u.k == 6) = true := by simpa using h6
        clear h6
        go_wp2_with fail
        have q := VAt.of_blk (J2.out.b1.putV VC.zero)
        refine bodyPost_ret (results_val_ok rfl _ _ _ rfl _ rfl _ VC.zero q) rfl ?_
        exact at_end J2.out VC.zero none HR.out false rfl rfl rfl (fun y hy => by cases hy)
      · have h6b : (u.k == 6) = false := by simpa using h6
        have h6y : y.k ≠ 6 := by rw [← HUK.out]; exact h6
        by_cases h5 : u.k = 5
        · have h5b : (u.k != 5) = false := by simp [h5]
          clear h5 h6
          have HG := Lib.hid (get_any y u s wr (J2.out.rv.mono fun _ _ => trivial))
          go_upto_region 10 with fail
          go_wp2_with fail
          refine HG.out.mono ?_
          rintro e w1 ⟨c', rfl, hr, hb⟩
          have J3 := Lib.hid (J2.out.step hb)
          have HR1 := Lib.hid hr
          have HSZ : Hid (w.heap.size + 4 ≤ wr.heap.size) := J2.out.b3.lt
          have HSZ2 : Hid (wr.heap.size ≤ w1.heap.size) := hb.size
          clear a0 a1 a2 a3 a4 n0 n1 n2 n3 n4 q0 q1 q2 q3 q4 z1 z3 hr hb HG
          cases hg : getV y s with
          | none =>
            rw [hg] at HR1
            have HR : Hid (keyAt x l = some nullV) := by rw [Hid, HK.out, HD.out]; exact keyAt_none h6y hg
            clear hg
            go_upto_region 11 with fail
            change Code.wp _ _ _ _ (w1.alloc (Obj.cells c'.arr 46))
            have J4 := Lib.hid (J3.out.step ((Below.refl w1.heap.size w1).alloc (Nat.le_refl _) (Obj.cells c'.arr 46)))
            generalize w1.alloc (Obj.cells c'.arr 46) = w2 at *
            have z1 := J4.out.b1.frozen
            obtain ⟨a0, a1, a2, a3, a4⟩ := VAt.of_blk J4.out.b1
            obtain ⟨n0, n1, n2, n3, n4⟩ := VAt.of_blk J4.out.b2
            simp only [Nat.zero_add] at a0 a1 a2 a3 a4 n0 n1 n2 n3 n4
            go_wp2_with fail
            have q := VAt.of_blk (J4.out.b1.putV nullC)
            refine bodyPost_ret (results_val_ok rfl _ _ _ rfl _ rfl _ nullC q) rfl ?_
            exact at_end J4.out nullC (some nullV) HR.out true rfl rfl rfl (fun y hy => by cases hy; exact rv_null)
          | some z =>
            rw [hg] at HR1
            have HR : Hid (keyAt x l = keyAt z (l.drop (i + 1))) := by rw [Hid, HK.out, HD.out]; exact keyAt_some h6y hg
            clear hg
            go_upto_region 11 with fail
            change Code.wp _ _ _ _ (w1.alloc (Obj.cells c'.arr 46))
            have J4 := Lib.hid (J3.out.step ((Below.refl w1.heap.size w1).alloc (Nat.le_refl _) (Obj.cells c'.arr 46)))
            have JC : Hid (Blk (w1.alloc (Obj.cells c'.arr 46)) w1.heap.size 46 c'.arr) := Blk.new_at rfl
            have HR2 := Lib.hid (HR1.out.lt.keepG (G := fun b => w.heap.size + 4 ≤ b) (w' := w1.alloc (Obj.cells c'.arr 46)) fun b hb hl => ⟨Nat.le_trans HSZ.out hb.1, Below.heap_alloc _ _ _ hl⟩)
            have hgl : w.heap.size + 3 < w1.heap.size := by have h1 := HSZ.out; have h2 := HSZ2.out; omega
            generalize w1.alloc (Obj.cells c'.arr 46) = w2 at *
            have z3 := J4.out.b3.frozen
            obtain ⟨a0, a1, a2, a3, a4⟩ := VAt.of_blk JC.out
            obtain ⟨q0, q1, q2, q3, q4⟩ := VAt.of_blk J4.out.b3
            simp only [Nat.zero_add] at a0 a1 a2 a3 a4 q0 q1 q2 q3 q4
            go_wp2_with fail
            go_roundw
            case rel => exact ⟨i + 1, c', z, hlt, by go_num, HR.out, J4.out.put HR2.out⟩
            case measure => simp [intOf]; omega
        · have h5b : (u.k != 5) = true := by simp [h5]
          have HR : Hid (keyAt x l = some nullV) := by rw [Hid, HK.out, HD.out]; exact keyAt_none h6y (getV_kind s (by rw [← HUK.out]; exact h5))
          go_wp2_with fail
          have q := VAt.of_blk (J2.out.b1.putV nullC)
          refine bodyPost_ret (results_val_ok rfl _ _ _ rfl _ rfl _ nullC q) rfl ?_
          exact at_end J2.out nullC (some nullV) HR.out true rfl rfl rfl (fun y hy => by cases hy; exact rv_null)
    · obtain rfl : i = n := by omega
      have hdr : l.drop i = [] := List.drop_of_length_le (by have := HL.out; omega)
      by_cases h6 : u.k = 6
      · have HR : Hid (keyAt x l = none) := by rw [Hid, HK.out]; exact keyAt_list (by rw [← HUK.out]; exact h6) _
        have h6b : (u.k != 6) = false := by simp [h6]
        clear h6
        go_upto_region 15 with fail
        go_region
        all_goals (go_wp2_with fail)
        all_goals
          have q := VAt.of_blk (J2.out.b1.putV u).drew
          refine bodyPost_ret (results_val_ok rfl _ _ _ rfl _ rfl _ u q) rfl ?_
          exact (at_end J2.out u none HR.out false rfl rfl rfl (fun y hy => by cases hy)).drew
      · have HR : Hid (keyAt x l = some y) := by rw [Hid, HK.out, hdr]; exact keyAt_end (by rw [← HUK.out]; exact h6)
        have h6b : (u.k != 6) = true := by simp [h6]
        go_upto_region 15 with fail
        go_region
        all_goals (go_wp2_with fail)
        all_goals
          have q := VAt.of_blk (J2.out.b1.putV u).drew
          refine bodyPost_ret (results_val_ok rfl _ _ _ rfl _ rfl _ u q) rfl ?_
          exact (at_end J2.out u (some y) HR.out true rfl rfl rfl (fun z hz => by cases hz; exact J2.out.rvput)).drew

end Go.Proofs.YtlmmgjgkmbmgpaaGreatDoor

/- The contract of the reference's KeyValue. Printed by gen_shkv.py. -/
namespace Go.Proofs.YtlmmgjgkmbmgpaaGreatDoor
open Go.RowKit

set_option maxHeartbeats 400000 in
theorem rnull_any (w : World) : Calls Tryz.prog 71 #[] w fun e w' => e = .returned nullC.val ∧ Below w.heap.size w w' := by
  go_enter Tryz.func71, Tryz.ntmps71
  go_wp2_with fail
  exact bodyPost_ret (results_val rfl _ _ _ rfl _ nullC (VAt.of_blk (Blk.new _ _ _))) rfl ⟨rfl, (Below.refl _ _).alloc (Nat.le_refl _) _⟩

/-- a slice without its first element -/
theorem ST.tail {w : World} {b off n c : Nat} {s : ByteArray} {r : List ByteArray} (h : ST w (some ⟨b, off, none⟩) n c (s :: r)) :
    ST w (if c = 1 then some ⟨b, off, none⟩ else some ⟨b, off + 1, none⟩) (n - 1) (c - 1) r := by
  have hl := h.sr.ln
  have hc := h.sr.lc
  simp only [List.length_cons] at hl
  have hz := h.sz
  refine ⟨⟨by omega, by omega, fun hn => ?_⟩, by omega, fun x hx => h.el x (by simp [hx])⟩
  obtain ⟨b', off', e, hb, hel⟩ := h.sr.el (by omega)
  cases e
  rw [if_neg (by omega)]
  refine ⟨b, off + 1, rfl, hb, fun i a hi j v hj => ?_⟩
  have := hel (i + 1) a (by simpa using hi) j v hj
  rw [show off + 1 + i * 1 + j = off + (i + 1) * 1 + j by omega]
  exact this

/-- what the reference's KeyValue hands back -/
def RAtOk (F : Nat → Prop) (x : Val) (l : List ByteArray) (w : World) (e : Ending) (w' : World) : Prop :=
  ∃ u : VC, e = .returned (.tuple #[u.val, .bool (keyAt x l).isSome]) ∧ (∀ y, keyAt x l = some y → RV F w' u y) ∧ Below w.heap.size w w'
theorem RAtOk.drew {F : Nat → Prop} {x : Val} {l : List ByteArray} {w : World} {e : Ending} {w' : World} (h : RAtOk F x l w e w') : RAtOk F x l w e w'.drew := by
  obtain ⟨u, h1, h2, h3⟩ := h
  exact ⟨u, h1, fun y hy => (h2 y hy).keep fun _ _ => rfl, h3.drew⟩
def RKvAt (l : List ByteArray) : Prop := ∀ (F : Nat → Prop) (x : Val) (c : VC) (A : Option Addr) (n cc : Nat) (w : World), (∀ b, F b → b < w.heap.size) → RV F w c x → ST w A n cc l →
    Calls Tryz.prog 124 #[c.val, .slice A n cc] w (RAtOk F x l w)
theorem rat_end {F : Nat → Prop} {w wr w' : World} {x : Val} {l : List ByteArray} {e : Ending} (c' : VC) (o : Option Val) (hbel : Below w.heap.size w wr) (ho : keyAt x l = o) (b : Bool) (hb : b = o.isSome) (he : e = .returned (.tuple #[c'.val, .bool b])) (hw : w' = setV wr (w.heap.size + 1) 0 c') (hr : ∀ z, o = some z → RV F (setV wr (w.heap.size + 1) 0 c') c' z) : RAtOk F x l w e w' := by
  subst ho
  subst hb
  subst he
  subst hw
  exact ⟨c', rfl, hr, below_setV hbel (by omega) 0 c'⟩

set_option maxRecDepth 100000 in
set_option maxHeartbeats 2000000 in
theorem rkv_any : ∀ l, RKvAt l := by
  intro l
  induction l with
  | nil =>
    intro F x c A n cc w hF h hp
    have hn : n = 0 := hp.sr.ln
    subst hn
    have hk : Hid (c.k = x.k) := h.open.k
    have BE : Hid (Below w.heap.size w ((w.alloc (Obj.cells c.arr 46)).alloc (Obj.cells VC.zero.arr 46))) := ((Below.refl _ _).alloc (Nat.le_refl _) _).alloc (by simp) _
    have B0 : Hid (Blk ((w.alloc (Obj.cells c.arr 46)).alloc (Obj.cells VC.zero.arr 46)) w.heap.size 46 c.arr) := (Blk.new_at rfl).alloc _
    have B1 : Hid (Blk ((w.alloc (Obj.cells c.arr 46)).alloc (Obj.cells VC.zero.arr 46)) (w.heap.size + 1) 46 VC.zero.arr) := Blk.new_at (by simp)
    go_enter Tryz.func124, Tryz.ntmps124
    go_upto_region 1 with fail
    change Code.wp _ _ _ _ ((w.alloc (Obj.cells c.arr 46)).alloc (Obj.cells VC.zero.arr 46))
    have hR := Lib.hid (h.lt.keepG (G := fun b => F b ∧ b < w.heap.size) (w' := ((w.alloc (Obj.cells c.arr 46)).alloc (Obj.cells VC.zero.arr 46))) fun b hb hl => ⟨hb, BE.out.block b hb.2⟩)
    generalize ((w.alloc (Obj.cells c.arr 46)).alloc (Obj.cells VC.zero.arr 46)) = wa at *
    obtain ⟨a0, a1, a2, a3, a4⟩ := VAt.of_blk B0.out
    obtain ⟨n0, n1, n2, n3, n4⟩ := VAt.of_blk B1.out
    simp only [Nat.zero_add] at a0 a1 a2 a3 a4 n0 n1 n2 n3 n4
    have z1 := B1.out.frozen
    by_cases h6 : c.k = 6
    · have HR : Hid (keyAt x [] = none) := keyAt_list (by rw [← hk.out]; exact h6) _
      have h6b : (c.k == 6) = true := by simpa using h6
      clear h6 hk h hp
      go_wp2_with fail
      have q := VAt.of_blk (B1.out.putV VC.zero)
      refine bodyPost_ret (results_val_ok rfl _ _ _ rfl _ rfl _ VC.zero q) rfl ?_
      exact rat_end VC.zero none BE.out HR.out false rfl rfl rfl (fun y hy => by cases hy)
    · have HR : Hid (keyAt x [] = some x) := keyAt_end (by rw [← hk.out]; exact h6)
      have h6b : (c.k == 6) = false := by simpa using h6
      clear h6 hk h hp
      go_wp2_with fail
      have q := VAt.of_blk (B1.out.putV c)
      refine bodyPost_ret (results_val_ok rfl _ _ _ rfl _ rfl _ c q) rfl ?_
      exact rat_end c (some x) BE.out HR.out true rfl rfl rfl (fun z hz => by cases hz; exact (hR.out.mono fun b hb => hb.1).keep fun b hb => heap_setV (by have := hF b hb; omega))
  | cons s r ih =>
    intro F x c A n cc w hF h hp
    have hk : Hid (c.k = x.k) := h.open.k
    have BE : Hid (Below w.heap.size w ((w.alloc (Obj.cells c.arr 46)).alloc (Obj.cells VC.zero.arr 46))) := ((Below.refl _ _).alloc (Nat.le_refl _) _).alloc (by simp) _
    have B0 : Hid (Blk ((w.alloc (Obj.cells c.arr 46)).alloc (Obj.cells VC.zero.arr 46)) w.heap.size 46 c.arr) := (Blk.new_at rfl).alloc _
    have B1 : Hid (Blk ((w.alloc (Obj.cells c.arr 46)).alloc (Obj.cells VC.zero.arr 46)) (w.heap.size + 1) 46 VC.zero.arr) := Blk.new_at (by simp)
    have hln := hp.sr.ln
    simp only [List.length_cons] at hln
    have hlc := hp.sr.lc
    have hnz : (n : Int) ≤ 8796093022208 := by have := hp.sz; unfold reach at this; omega
    obtain ⟨b, off, s', rfl, hbw, hs, hcell⟩ := hp.sr.at1 (i := 0) (by omega)
    obtain rfl : s = s' := by simpa using hs
    simp only [Nat.add_zero] at hcell
    have HT := Lib.hid hp.tail
    have HIH := Lib.hid ih
    have HFH := Lib.hid hF
    have cz : (cc : Int) ≠ 0 := by omega
    have HLN := Lib.hid hln
    have i1' : (0 : Int) < (n : Int) := by omega
    have i2' : 0 < n := by omega
    have i3' : (1 : Int) ≤ (n : Int) := by omega
    have n0b : ((n : Int) == 0) = false := by simp; omega
    clear hln
    go_enter Tryz.func124, Tryz.ntmps124
    go_upto_region 1 with fail
    change Code.wp _ _ _ _ ((w.alloc (Obj.cells c.arr 46)).alloc (Obj.cells VC.zero.arr 46))
    have HR0 := Lib.hid (h.keep (w' := ((w.alloc (Obj.cells c.arr 46)).alloc (Obj.cells VC.zero.arr 46))) fun b hb => BE.out.block b (hF b hb))
    have hsz : ((w.alloc (Obj.cells c.arr 46)).alloc (Obj.cells VC.zero.arr 46)).heap.size = w.heap.size + 2 := by simp
    generalize ((w.alloc (Obj.cells c.arr 46)).alloc (Obj.cells VC.zero.arr 46)) = wa at *
    obtain ⟨a0, a1, a2, a3, a4⟩ := VAt.of_blk B0.out
    obtain ⟨n0, n1, n2, n3, n4⟩ := VAt.of_blk B1.out
    simp only [Nat.zero_add] at a0 a1 a2 a3 a4 n0 n1 n2 n3 n4
    have z1 := B1.out.frozen
    by_cases h6 : c.k = 6
    · have HR : Hid (keyAt x (s :: r) = none) := keyAt_list (by rw [← hk.out]; exact h6) _
      have h6b : (c.k == 6) = true := by simpa using h6
      clear h6 hk h hp ih hF
      go_wp2_with fail
      have q := VAt.of_blk (B1.out.putV VC.zero)
      refine bodyPost_ret (results_val_ok rfl _ _ _ rfl _ rfl _ VC.zero q) rfl ?_
      exact rat_end VC.zero none BE.out HR.out false rfl rfl rfl (fun y hy => by cases hy)
    have h6y : Hid (x.k ≠ 6) := by unfold Hid; rw [← hk.out]; exact h6
    have h6b : (c.k == 6) = false := by simpa using h6
    clear h6 hk h hp ih hF hs
    go_upto_region 5 with fail
    have hcw := (BE.out.cell (p := ⟨b, off, none⟩) hbw).trans hcell
    have lb0 := B0.out.lt
    have lbb : b < wa.heap.size := Nat.lt_of_lt_of_le hbw BE.out.size
    have KC : Hid (∀ w' : World, (∀ g, g < wa.heap.size → w'.heap[g]? = wa.heap[g]?) → w'.cell? ⟨w.heap.size, 0, none⟩ = some (.int .i64 c.k) ∧ w'.cell? ⟨w.heap.size, 1, none⟩ = some (.int .i64 c.n) ∧ w'.cell? ⟨w.heap.size, 2, none⟩ = some (.string c.t) ∧ w'.cell? ⟨w.heap.size, 3, none⟩ = some (.slice c.LA c.ln c.lc) ∧ w'.cell? ⟨w.heap.size, 4, none⟩ = some (.slice c.DA c.dn c.dc) ∧ w'.cell? ⟨b, off, none⟩ = some (.string s)) := Lib.hid fun w' hk => by
      have p0 : ∀ o, w'.cell? ⟨w.heap.size, o, none⟩ = wa.cell? ⟨w.heap.size, o, none⟩ := fun o => World.cell?_of_block (w := wa) (a := ⟨w.heap.size, o, none⟩) (hk _ lb0)
      have p1 : ∀ o, w'.cell? ⟨b, o, none⟩ = wa.cell? ⟨b, o, none⟩ := fun o => World.cell?_of_block (w := wa) (a := ⟨b, o, none⟩) (hk _ lbb)
      exact ⟨(p0 _).trans a0, (p0 _).trans a1, (p0 _).trans a2, (p0 _).trans a3, (p0 _).trans a4, (p1 _).trans hcw⟩
    have HGV : Hid (∀ wq, Below wa.heap.size wa wq → Calls Tryz.prog 78 #[c.val, .string s] wq (RGetF F x s wq)) := Lib.hid fun wq hq => rget_fp x c s wq (HR0.out.keep fun b hb => hq.block b (by have := HFH.out b hb; omega))
    go_cut [6, 7] (fun v6 v7 wx => ∃ (g9 : Nat) (c9 : VC), v6 = .pointer (some ⟨g9, 0, none⟩) ∧ v7 = .bool (getV x s).isSome ∧ Blk wx g9 46 c9.arr ∧ RV F wx c9 ((getV x s).getD Val.zero) ∧ wa.heap.size ≤ g9 ∧ Below wa.heap.size wa wx)
    case first =>
      refine wp_region_noPanic ?_
      refine wp_region_held_drew (S := (fun w' => w'.cell? ⟨w.heap.size, 0, none⟩ = some (.int .i64 c.k) ∧ w'.cell? ⟨w.heap.size, 1, none⟩ = some (.int .i64 c.n) ∧ w'.cell? ⟨w.heap.size, 2, none⟩ = some (.string c.t) ∧ w'.cell? ⟨w.heap.size, 3, none⟩ = some (.slice c.LA c.ln c.lc) ∧ w'.cell? ⟨w.heap.size, 4, none⟩ = some (.slice c.DA c.dn c.dc) ∧ w'.cell? ⟨b, off, none⟩ = some (.string s))) (by kernel_rfl) ?_ (fun hHeld => ?_)
      · (try dsimp only); exact KC.out _ (fun g hg => rfl)
      have B : Hid (Below wa.heap.size wa wa.drew) := Lib.hid ((Below.refl wa.heap.size wa).drew)
      generalize wa.drew = W0 at *
      refine wpAnyH_take (i := 0) (v := ?_) (take_at rfl) (by kernel_rfl) (by kernel_rfl) (by kernel_rfl) (fun _ _ _ h => h) (Or.inl ⟨by rfl, ?_⟩) (by assumption) ?_
      rotate_left
      · intro w' hSw; (try dsimp only at hSw); go_simp; (try with_reducible rfl)
      (try simp only [Act.put, List.setIfInBounds_toArray, List.set_cons_zero, List.set_cons_succ])
      refine wpAnyH_take (i := 1) (v := ?_) (take_at rfl) (by kernel_rfl) (by kernel_rfl) (by kernel_rfl) (fun _ _ _ h => h) (Or.inl ⟨by rfl, ?_⟩) (by assumption) ?_
      rotate_left
      · intro w' hSw; (try dsimp only at hSw); go_simp; (try with_reducible rfl)
      (try simp only [Act.put, List.setIfInBounds_toArray, List.set_cons_zero, List.set_cons_succ])
      refine wpAnyH_take (i := 2) (v := ?_) (take_at rfl) (by kernel_rfl) (by kernel_rfl) (by kernel_rfl) (fun _ _ _ h => h) (Or.inl ⟨by rfl, ?_⟩) (by assumption) ?_
      rotate_left
      · intro w' hSw; (try dsimp only at hSw); go_simp; (try with_reducible rfl)
      (try simp only [Act.put, List.setIfInBounds_toArray, List.set_cons_zero, List.set_cons_succ])
      refine wpAnyH_take (i := 3) (v := ?_) (take_at rfl) (by kernel_rfl) (by kernel_rfl) (by kernel_rfl) (fun _ _ _ h => h) (Or.inl ⟨by rfl, ?_⟩) (by assumption) ?_
      rotate_left
      · intro w' hSw; (try dsimp only at hSw); go_simp; (try with_reducible rfl)
      (try simp only [Act.put, List.setIfInBounds_toArray, List.set_cons_zero, List.set_cons_succ])
      refine wpAnyH_ready (rs := [4, 8]) (by kernel_rfl) (by simp) ?_
      refine AllReadyH.cons (take_at rfl) (fun K hK => ?_) (AllReadyH.cons (take_at rfl) (fun K hK => ?_) AllReadyH.nil)
      · go_simp
        refine (HGV.out _ B.out).mono ?_
        rintro e W1 ⟨c9, rfl, hr, hb⟩
        have R9 := Lib.hid hr
        replace B := Lib.hid (B.out.step' hb)
        clear hb hr
        (try go_wp2_with fail)
        refine hK.out _ _ ?_ (fun hHeld2 => ?_)
        · (try dsimp only); exact KC.out _ (fun g hg => B.out.block g hg)
        clear hK K hHeld
        have hHeld := hHeld2
        clear hHeld2
        (try simp only [Act.put, List.setIfInBounds_toArray, List.set_cons_zero, List.set_cons_succ])
        refine wpAnyH_take (i := 5) (v := ?_) (take_at rfl) (by kernel_rfl) (by kernel_rfl) (by kernel_rfl) (fun _ _ _ h => h) (Or.inl ⟨by rfl, ?_⟩) (by assumption) ?_
        rotate_left
        · intro w' hSw; (try dsimp only at hSw); go_simp; (try with_reducible rfl)
        (try simp only [Act.put, List.setIfInBounds_toArray, List.set_cons_zero, List.set_cons_succ])
        refine wpAnyH_take (i := 6) (v := ?_) (take_at rfl) (by kernel_rfl) (by kernel_rfl) (by kernel_rfl) (fun _ _ _ h => h) (Or.inl ⟨by rfl, ?_⟩) (by assumption) ?_
        rotate_left
        · intro w' hSw; (try dsimp only at hSw); go_simp; (try with_reducible rfl)
        (try simp only [Act.put, List.setIfInBounds_toArray, List.set_cons_zero, List.set_cons_succ])
        refine wpAnyH_take (i := 7) (v := ?_) (take_at rfl) (by kernel_rfl) (by kernel_rfl) (by kernel_rfl) (fun _ _ _ h => h) (Or.inl ⟨by rfl, ?_⟩) (by assumption) ?_
        rotate_left
        · intro w' hSw; (try dsimp only at hSw); go_simp; (try with_reducible rfl)
        (try simp only [Act.put, List.setIfInBounds_toArray, List.set_cons_zero, List.set_cons_succ])
        refine wpAnyH_ready (rs := [8]) (by kernel_rfl) (by simp) ?_
        refine AllReadyH.cons (take_at rfl) (fun K hK => ?_) AllReadyH.nil
        go_simp
        have hg9 : wa.heap.size ≤ W1.heap.size := B.out.size
        have Q9 : Hid (Blk (W1.alloc (Obj.cells VC.zero.arr 46)) W1.heap.size 46 VC.zero.arr) := Blk.new_at rfl
        replace R9 := Lib.hid (R9.out.alloc (Obj.cells VC.zero.arr 46))
        replace B := Lib.hid (B.out.alloc B.out.size (Obj.cells VC.zero.arr 46))
        change K _ (W1.alloc (Obj.cells VC.zero.arr 46))
        generalize W1.alloc (Obj.cells VC.zero.arr 46) = W2 at *
        generalize W1.heap.size = g9 at *
        refine hK.out _ _ ?_ (fun hHeld2 => ?_)
        · (try dsimp only); exact KC.out _ (fun g hg => B.out.block g hg)
        clear hK K hHeld
        have hHeld := hHeld2
        clear hHeld2
        (try simp only [Act.put, List.setIfInBounds_toArray, List.set_cons_zero, List.set_cons_succ])
        refine wpAnyH_ready (rs := [9]) (by kernel_rfl) (by simp) ?_
        refine AllReadyH.cons (take_at rfl) (fun K hK => ?_) AllReadyH.nil
        obtain ⟨z0, z1, z2, z3, z4⟩ := VAt.of_blk Q9.out
        simp only [Nat.zero_add] at z0 z1 z2 z3 z4
        have zz := Q9.out.frozen
        have lq := Q9.out.lt
        go_simp
        have R9' := Lib.hid (R9.out.keep (w' := setV W2 g9 0 c9) fun b hb => heap_setV (by have := HFH.out b hb; omega))
        have Q9' := Lib.hid (Q9.out.putV c9)
        have B' := Lib.hid (below_setV B.out hg9 0 c9)
        clear z0 z1 z2 z3 z4 zz lq R9 Q9 B
        have R9 := R9'
        have Q9 := Q9'
        have B := B'
        clear R9' Q9' B'
        change K _ (setV W2 g9 0 c9)
        generalize setV W2 g9 0 c9 = W3 at *
        refine hK.out _ _ ?_ (fun hHeld2 => ?_)
        · (try dsimp only); exact KC.out _ (fun g hg => B.out.block g hg)
        clear hK K hHeld
        have hHeld := hHeld2
        clear hHeld2
        (try simp only [Act.put, List.setIfInBounds_toArray, List.set_cons_zero, List.set_cons_succ])
        refine wpAnyH_take (i := 10) (v := ?_) (take_at rfl) (by kernel_rfl) (by kernel_rfl) (by kernel_rfl) (fun _ _ _ h => h) (Or.inl ⟨by rfl, ?_⟩) (by assumption) ?_
        rotate_left
        · intro w' hSw; (try dsimp only at hSw); go_simp; (try with_reducible rfl)
        (try simp only [Act.put, List.setIfInBounds_toArray, List.set_cons_zero, List.set_cons_succ])
        refine wpAnyH_done (by kernel_rfl) ?_ _
        refine NoPanic.normal ?_
        go_wp2_with fail
        go_meet
        exact ⟨g9, c9, rfl, rfl, Q9.out, R9.out, by omega, B.out⟩
      · go_simp
        have hg9 : wa.heap.size ≤ W0.heap.size := B.out.size
        have Q9 : Hid (Blk (W0.alloc (Obj.cells VC.zero.arr 46)) W0.heap.size 46 VC.zero.arr) := Blk.new_at rfl
        replace B := Lib.hid (B.out.alloc B.out.size (Obj.cells VC.zero.arr 46))
        change K _ (W0.alloc (Obj.cells VC.zero.arr 46))
        generalize W0.alloc (Obj.cells VC.zero.arr 46) = W1 at *
        generalize W0.heap.size = g9 at *
        refine hK.out _ _ ?_ (fun hHeld2 => ?_)
        · (try dsimp only); exact KC.out _ (fun g hg => B.out.block g hg)
        clear hK K hHeld
        have hHeld := hHeld2
        clear hHeld2
        (try simp only [Act.put, List.setIfInBounds_toArray, List.set_cons_zero, List.set_cons_succ])
        refine wpAnyH_ready (rs := [4]) (by kernel_rfl) (by simp) ?_
        refine AllReadyH.cons (take_at rfl) (fun K hK => ?_) AllReadyH.nil
        go_simp
        refine (HGV.out _ B.out).mono ?_
        rintro e W2 ⟨c9, rfl, hr, hb⟩
        have R9 := Lib.hid hr
        replace Q9 := Lib.hid (Q9.out.step hb)
        replace B := Lib.hid (B.out.step' hb)
        clear hb hr
        (try go_wp2_with fail)
        refine hK.out _ _ ?_ (fun hHeld2 => ?_)
        · (try dsimp only); exact KC.out _ (fun g hg => B.out.block g hg)
        clear hK K hHeld
        have hHeld := hHeld2
        clear hHeld2
        (try simp only [Act.put, List.setIfInBounds_toArray, List.set_cons_zero, List.set_cons_succ])
        refine wpAnyH_take (i := 5) (v := ?_) (take_at rfl) (by kernel_rfl) (by kernel_rfl) (by kernel_rfl) (fun _ _ _ h => h) (Or.inl ⟨by rfl, ?_⟩) (by assumption) ?_
        rotate_left
        · intro w' hSw; (try dsimp only at hSw); go_simp; (try with_reducible rfl)
        (try simp only [Act.put, List.setIfInBounds_toArray, List.set_cons_zero, List.set_cons_succ])
        refine wpAnyH_take (i := 6) (v := ?_) (take_at rfl) (by kernel_rfl) (by kernel_rfl) (by kernel_rfl) (fun _ _ _ h => h) (Or.inl ⟨by rfl, ?_⟩) (by assumption) ?_
        rotate_left
        · intro w' hSw; (try dsimp only at hSw); go_simp; (try with_reducible rfl)
        (try simp only [Act.put, List.setIfInBounds_toArray, List.set_cons_zero, List.set_cons_succ])
        refine wpAnyH_take (i := 7) (v := ?_) (take_at rfl) (by kernel_rfl) (by kernel_rfl) (by kernel_rfl) (fun _ _ _ h => h) (Or.inl ⟨by rfl, ?_⟩) (by assumption) ?_
        rotate_left
        · intro w' hSw; (try dsimp only at hSw); go_simp; (try with_reducible rfl)
        (try simp only [Act.put, List.setIfInBounds_toArray, List.set_cons_zero, List.set_cons_succ])
        refine wpAnyH_ready (rs := [9]) (by kernel_rfl) (by simp) ?_
        refine AllReadyH.cons (take_at rfl) (fun K hK => ?_) AllReadyH.nil
        obtain ⟨z0, z1, z2, z3, z4⟩ := VAt.of_blk Q9.out
        simp only [Nat.zero_add] at z0 z1 z2 z3 z4
        have zz := Q9.out.frozen
        have lq := Q9.out.lt
        go_simp
        have R9' := Lib.hid (R9.out.keep (w' := setV W2 g9 0 c9) fun b hb => heap_setV (by have := HFH.out b hb; omega))
        have Q9' := Lib.hid (Q9.out.putV c9)
        have B' := Lib.hid (below_setV B.out hg9 0 c9)
        clear z0 z1 z2 z3 z4 zz lq R9 Q9 B
        have R9 := R9'
        have Q9 := Q9'
        have B := B'
        clear R9' Q9' B'
        change K _ (setV W2 g9 0 c9)
        generalize setV W2 g9 0 c9 = W3 at *
        refine hK.out _ _ ?_ (fun hHeld2 => ?_)
        · (try dsimp only); exact KC.out _ (fun g hg => B.out.block g hg)
        clear hK K hHeld
        have hHeld := hHeld2
        clear hHeld2
        (try simp only [Act.put, List.setIfInBounds_toArray, List.set_cons_zero, List.set_cons_succ])
        refine wpAnyH_take (i := 10) (v := ?_) (take_at rfl) (by kernel_rfl) (by kernel_rfl) (by kernel_rfl) (fun _ _ _ h => h) (Or.inl ⟨by rfl, ?_⟩) (by assumption) ?_
        rotate_left
        · intro w' hSw; (try dsimp only at hSw); go_simp; (try with_reducible rfl)
        (try simp only [Act.put, List.setIfInBounds_toArray, List.set_cons_zero, List.set_cons_succ])
        refine wpAnyH_done (by kernel_rfl) ?_ _
        refine NoPanic.normal ?_
        go_wp2_with fail
        go_meet
        exact ⟨g9, c9, rfl, rfl, Q9.out, R9.out, by omega, B.out⟩
    case rest =>
      obtain ⟨g9, c9, rfl, rfl, hg9, hr9, hl9, hb9⟩ := hcut
      have BE2 := Lib.hid (BE.out.step' hb9)
      have B12 := Lib.hid (B1.out.step hb9)
      have G9 := Lib.hid hg9
      have GR := Lib.hid hr9
      clear HGV KC a0 a1 a2 a3 a4 n0 n1 n2 n3 n4 hcw B0 B1 BE HR0
      generalize wc = w2 at *
      obtain ⟨n0, n1, n2, n3, n4⟩ := VAt.of_blk B12.out
      simp only [Nat.zero_add] at n0 n1 n2 n3 n4
      have z1 := B12.out.frozen
      cases hg : getV x s with
      | none =>
        rw [hg] at GR
        have HR : Hid (keyAt x (s :: r) = some nullV) := keyAt_none h6y.out hg
        clear hg hg9 hr9 hb9
        go_wp2_with fail
        refine (rnull_any _).mono ?_
        rintro e w3 ⟨rfl, hb3⟩
        have B13 := Lib.hid (B12.out.step hb3)
        have BE3 := Lib.hid (BE2.out.step' hb3)
        clear n0 n1 n2 n3 n4 z1 hb3
        obtain ⟨n0, n1, n2, n3, n4⟩ := VAt.of_blk B13.out
        simp only [Nat.zero_add] at n0 n1 n2 n3 n4
        have z1 := B13.out.frozen
        go_wp2_with fail
        have q := VAt.of_blk (B13.out.putV nullC)
        refine bodyPost_ret (results_val_ok rfl _ _ _ rfl _ rfl _ nullC q) rfl ?_
        exact rat_end nullC (some nullV) BE3.out HR.out true rfl rfl rfl (fun y hy => by cases hy; exact rv_null)
      | some y =>
        rw [hg] at GR
        have HR : Hid (keyAt x (s :: r) = keyAt y r) := keyAt_some h6y.out hg
        clear hg hg9 hr9 hb9
        go_upto_region 8 with fail
        obtain ⟨g0, g1, g2, g3, g4⟩ := VAt.of_blk G9.out
        simp only [Nat.zero_add] at g0 g1 g2 g3 g4
        have G9L := Lib.hid G9.out.lt
        have hl9' : Hid (g9 ≠ w.heap.size + 1) := by unfold Hid; omega
        have KC : Hid (∀ w' : World, w'.heap[g9]? = w2.heap[g9]? → w'.cell? ⟨g9, 0, none⟩ = some (.int .i64 c9.k) ∧ w'.cell? ⟨g9, 1, none⟩ = some (.int .i64 c9.n) ∧ w'.cell? ⟨g9, 2, none⟩ = some (.string c9.t) ∧ w'.cell? ⟨g9, 3, none⟩ = some (.slice c9.LA c9.ln c9.lc) ∧ w'.cell? ⟨g9, 4, none⟩ = some (.slice c9.DA c9.dn c9.dc)) := Lib.hid fun w' hk => by
          have p0 : ∀ o, w'.cell? ⟨g9, o, none⟩ = w2.cell? ⟨g9, o, none⟩ := fun o => World.cell?_of_block (w := w2) (a := ⟨g9, o, none⟩) hk
          exact ⟨(p0 _).trans g0, (p0 _).trans g1, (p0 _).trans g2, (p0 _).trans g3, (p0 _).trans g4⟩
        by_cases hc1 : cc = 1
        · subst hc1
          obtain rfl : n = 1 := by omega
          have HT2 := HT.out
          rw [if_pos rfl, Nat.sub_self] at HT2
          replace HT2 := Lib.hid HT2
          have HRK := Lib.hid fun (wq : World) (hq : Below w2.heap.size w2 wq) => HIH.out F y c9 _ _ _ wq (fun b hb => by have h1 := HFH.out b hb; have h2 := BE2.out.size; have h3 := hq.size; omega) (GR.out.step hq) ((HT2.out.step BE2.out).step hq)
          clear HT
          refine wp_region_noPanic ?_
          refine wp_region_held_drew (S := (fun w' => w'.cell? ⟨g9, 0, none⟩ = some (.int .i64 c9.k) ∧ w'.cell? ⟨g9, 1, none⟩ = some (.int .i64 c9.n) ∧ w'.cell? ⟨g9, 2, none⟩ = some (.string c9.t) ∧ w'.cell? ⟨g9, 3, none⟩ = some (.slice c9.LA c9.ln c9.lc) ∧ w'.cell? ⟨g9, 4, none⟩ = some (.slice c9.DA c9.dn c9.dc))) (by kernel_rfl) ?_ (fun hHeld => ?_)
          · (try dsimp only); exact KC.out _ rfl
          have B : Hid (Below w2.heap.size w2 w2.drew) := Lib.hid ((Below.refl w2.heap.size w2).drew)
          generalize w2.drew = W0 at *
          refine wpAnyH_take (i := 0) (v := ?_) (take_at rfl) (by kernel_rfl) (by kernel_rfl) (by kernel_rfl) (fun _ _ _ h => h) (Or.inl ⟨by rfl, ?_⟩) (by assumption) ?_
          rotate_left
          · intro w' hSw; (try dsimp only at hSw); go_simp; (try with_reducible rfl)
          (try simp only [Act.put, List.setIfInBounds_toArray, List.set_cons_zero, List.set_cons_succ])
          refine wpAnyH_take (i := 1) (v := ?_) (take_at rfl) (by kernel_rfl) (by kernel_rfl) (by kernel_rfl) (fun _ _ _ h => h) (Or.inl ⟨by rfl, ?_⟩) (by assumption) ?_
          rotate_left
          · intro w' hSw; (try dsimp only at hSw); go_simp; (try with_reducible rfl)
          (try simp only [Act.put, List.setIfInBounds_toArray, List.set_cons_zero, List.set_cons_succ])
          refine wpAnyH_take (i := 2) (v := ?_) (take_at rfl) (by kernel_rfl) (by kernel_rfl) (by kernel_rfl) (fun _ _ _ h => h) (Or.inl ⟨by rfl, ?_⟩) (by assumption) ?_
          rotate_left
          · intro w' hSw; (try dsimp only at hSw); go_simp; (try with_reducible rfl)
          (try simp only [Act.put, List.setIfInBounds_toArray, List.set_cons_zero, List.set_cons_succ])
          refine wpAnyH_ready (rs := [3]) (by kernel_rfl) (by simp) ?_
          refine AllReadyH.cons (take_at rfl) (fun K hK => ?_) AllReadyH.nil
          go_simp
          refine (HRK.out _ B.out).mono ?_
          rintro e W1 ⟨u9, rfl, hr, hb⟩
          have R9 := Lib.hid hr
          replace B := Lib.hid (B.out.step' hb)
          clear hb hr
          (try go_wp2_with fail)
          refine hK.out _ _ ?_ (fun hHeld2 => ?_)
          · (try dsimp only); exact KC.out _ (B.out.block _ G9L.out)
          clear hK K hHeld
          have hHeld := hHeld2
          clear hHeld2
          (try simp only [Act.put, List.setIfInBounds_toArray, List.set_cons_zero, List.set_cons_succ])
          refine wpAnyH_take (i := 4) (v := ?_) (take_at rfl) (by kernel_rfl) (by kernel_rfl) (by kernel_rfl) (fun _ _ _ h => h) (Or.inl ⟨by rfl, ?_⟩) (by assumption) ?_
          rotate_left
          · intro w' hSw; (try dsimp only at hSw); go_simp; (try with_reducible rfl)
          (try simp only [Act.put, List.setIfInBounds_toArray, List.set_cons_zero, List.set_cons_succ])
          refine wpAnyH_take (i := 5) (v := ?_) (take_at rfl) (by kernel_rfl) (by kernel_rfl) (by kernel_rfl) (fun _ _ _ h => h) (Or.inl ⟨by rfl, ?_⟩) (by assumption) ?_
          rotate_left
          · intro w' hSw; (try dsimp only at hSw); go_simp; (try with_reducible rfl)
          (try simp only [Act.put, List.setIfInBounds_toArray, List.set_cons_zero, List.set_cons_succ])
          refine wpAnyH_ready (rs := [6]) (by kernel_rfl) (by simp) ?_
          refine AllReadyH.cons (take_at rfl) (fun K hK => ?_) AllReadyH.nil
          have B14 := Lib.hid (B12.out.step B.out)
          have BE4 := Lib.hid (BE2.out.step' B.out)
          obtain ⟨z0, z1, z2, z3, z4⟩ := VAt.of_blk B14.out
          simp only [Nat.zero_add] at z0 z1 z2 z3 z4
          have zz := B14.out.frozen
          go_simp
          refine hK.out _ _ (KC.out _ ((heap_setV hl9'.out).trans (B.out.block _ G9L.out))) (fun hHeld2 => ?_)
          clear hHeld
          have hHeld := hHeld2
          clear hHeld2
          clear hK K z0 z1 z2 z3 z4 zz
          (try simp only [Act.put, List.setIfInBounds_toArray, List.set_cons_zero, List.set_cons_succ])
          refine wpAnyH_take (i := 7) (v := ?_) (take_at rfl) (by kernel_rfl) (by kernel_rfl) (by kernel_rfl) (fun _ _ _ h => h) (Or.inl ⟨by rfl, ?_⟩) (by assumption) ?_
          rotate_left
          · intro w' hSw; (try dsimp only at hSw); go_simp; (try with_reducible rfl)
          (try simp only [Act.put, List.setIfInBounds_toArray, List.set_cons_zero, List.set_cons_succ])
          refine wpAnyH_done (by kernel_rfl) ?_ _
          refine NoPanic.normal ?_
          go_wp2_with fail
          have q := VAt.of_blk (B14.out.putV u9)
          refine bodyPost_ret (results_val_ok rfl _ _ _ rfl _ rfl _ u9 q) rfl ?_
          exact rat_end u9 (keyAt y r) BE4.out HR.out _ rfl rfl rfl (fun z hz => (R9.out z hz).keep fun b hb => heap_setV (by have := HFH.out b hb; omega))
        · have HT2 := HT.out
          rw [if_neg hc1] at HT2
          replace HT2 := Lib.hid HT2
          have HRK := Lib.hid fun (wq : World) (hq : Below w2.heap.size w2 wq) => HIH.out F y c9 _ _ _ wq (fun b hb => by have h1 := HFH.out b hb; have h2 := BE2.out.size; have h3 := hq.size; omega) (GR.out.step hq) ((HT2.out.step BE2.out).step hq)
          clear HT
          refine wp_region_noPanic ?_
          refine wp_region_held_drew (S := (fun w' => w'.cell? ⟨g9, 0, none⟩ = some (.int .i64 c9.k) ∧ w'.cell? ⟨g9, 1, none⟩ = some (.int .i64 c9.n) ∧ w'.cell? ⟨g9, 2, none⟩ = some (.string c9.t) ∧ w'.cell? ⟨g9, 3, none⟩ = some (.slice c9.LA c9.ln c9.lc) ∧ w'.cell? ⟨g9, 4, none⟩ = some (.slice c9.DA c9.dn c9.dc))) (by kernel_rfl) ?_ (fun hHeld => ?_)
          · (try dsimp only); exact KC.out _ rfl
          have B : Hid (Below w2.heap.size w2 w2.drew) := Lib.hid ((Below.refl w2.heap.size w2).drew)
          generalize w2.drew = W0 at *
          refine wpAnyH_take (i := 0) (v := ?_) (take_at rfl) (by kernel_rfl) (by kernel_rfl) (by kernel_rfl) (fun _ _ _ h => h) (Or.inl ⟨by rfl, ?_⟩) (by assumption) ?_
          rotate_left
          · intro w' hSw; (try dsimp only at hSw); go_simp; (try with_reducible rfl)
          (try simp only [Act.put, List.setIfInBounds_toArray, List.set_cons_zero, List.set_cons_succ])
          refine wpAnyH_take (i := 1) (v := ?_) (take_at rfl) (by kernel_rfl) (by kernel_rfl) (by kernel_rfl) (fun _ _ _ h => h) (Or.inl ⟨by rfl, ?_⟩) (by assumption) ?_
          rotate_left
          · intro w' hSw; (try dsimp only at hSw); go_simp; (try with_reducible rfl)
          (try simp only [Act.put, List.setIfInBounds_toArray, List.set_cons_zero, List.set_cons_succ])
          refine wpAnyH_take (i := 2) (v := ?_) (take_at rfl) (by kernel_rfl) (by kernel_rfl) (by kernel_rfl) (fun _ _ _ h => h) (Or.inl ⟨by rfl, ?_⟩) (by assumption) ?_
          rotate_left
          · intro w' hSw; (try dsimp only at hSw); go_simp; (try with_reducible rfl)
          (try simp only [Act.put, List.setIfInBounds_toArray, List.set_cons_zero, List.set_cons_succ])
          refine wpAnyH_ready (rs := [3]) (by kernel_rfl) (by simp) ?_
          refine AllReadyH.cons (take_at rfl) (fun K hK => ?_) AllReadyH.nil
          go_simp
          refine (HRK.out _ B.out).mono ?_
          rintro e W1 ⟨u9, rfl, hr, hb⟩
          have R9 := Lib.hid hr
          replace B := Lib.hid (B.out.step' hb)
          clear hb hr
          (try go_wp2_with fail)
          refine hK.out _ _ ?_ (fun hHeld2 => ?_)
          · (try dsimp only); exact KC.out _ (B.out.block _ G9L.out)
          clear hK K hHeld
          have hHeld := hHeld2
          clear hHeld2
          (try simp only [Act.put, List.setIfInBounds_toArray, List.set_cons_zero, List.set_cons_succ])
          refine wpAnyH_take (i := 4) (v := ?_) (take_at rfl) (by kernel_rfl) (by kernel_rfl) (by kernel_rfl) (fun _ _ _ h => h) (Or.inl ⟨by rfl, ?_⟩) (by assumption) ?_
          rotate_left
          · intro w' hSw; (try dsimp only at hSw); go_simp; (try with_reducible rfl)
          (try simp only [Act.put, List.setIfInBounds_toArray, List.set_cons_zero, List.set_cons_succ])
          refine wpAnyH_take (i := 5) (v := ?_) (take_at rfl) (by kernel_rfl) (by kernel_rfl) (by kernel_rfl) (fun _ _ _ h => h) (Or.inl ⟨by rfl, ?_⟩) (by assumption) ?_
          rotate_left
          · intro w' hSw; (try dsimp only at hSw); go_simp; (try with_reducible rfl)
          (try simp only [Act.put, List.setIfInBounds_toArray, List.set_cons_zero, List.set_cons_succ])
          refine wpAnyH_ready (rs := [6]) (by kernel_rfl) (by simp) ?_
          refine AllReadyH.cons (take_at rfl) (fun K hK => ?_) AllReadyH.nil
          have B14 := Lib.hid (B12.out.step B.out)
          have BE4 := Lib.hid (BE2.out.step' B.out)
          obtain ⟨z0, z1, z2, z3, z4⟩ := VAt.of_blk B14.out
          simp only [Nat.zero_add] at z0 z1 z2 z3 z4
          have zz := B14.out.frozen
          go_simp
          refine hK.out _ _ (KC.out _ ((heap_setV hl9'.out).trans (B.out.block _ G9L.out))) (fun hHeld2 => ?_)
          clear hHeld
          have hHeld := hHeld2
          clear hHeld2
          clear hK K z0 z1 z2 z3 z4 zz
          (try simp only [Act.put, List.setIfInBounds_toArray, List.set_cons_zero, List.set_cons_succ])
          refine wpAnyH_take (i := 7) (v := ?_) (take_at rfl) (by kernel_rfl) (by kernel_rfl) (by kernel_rfl) (fun _ _ _ h => h) (Or.inl ⟨by rfl, ?_⟩) (by assumption) ?_
          rotate_left
          · intro w' hSw; (try dsimp only at hSw); go_simp; (try with_reducible rfl)
          (try simp only [Act.put, List.setIfInBounds_toArray, List.set_cons_zero, List.set_cons_succ])
          refine wpAnyH_done (by kernel_rfl) ?_ _
          refine NoPanic.normal ?_
          go_wp2_with fail
          have q := VAt.of_blk (B14.out.putV u9)
          refine bodyPost_ret (results_val_ok rfl _ _ _ rfl _ rfl _ u9 q) rfl ?_
          exact rat_end u9 (keyAt y r) BE4.out HR.out _ rfl rfl rfl (fun z hz => (R9.out z hz).keep fun b hb => heap_setV (by have := HFH.out b hb; omega))

end Go.Proofs.YtlmmgjgkmbmgpaaGreatDoor

/- UTF-8 by lead bytes, in plain words. -/
namespace Go.Proofs.YtlmmgjgkmbmgpaaGreatDoor

def contB (b : UInt8) : Bool := decide (128 ≤ b.toNat) && decide (b.toNat ≤ 191)
/-- n continuation bytes stand at the head -/
def tailB (l : List UInt8) (n : Nat) : Bool := decide (n ≤ l.length) && (l.take n).all contB

theorem chk2 (r : List UInt8) (lo hi : Nat) (hlo : 128 ≤ lo) (hhi : hi ≤ 191) :
    (match Lib.checkN (r.length + 1) (r.getD 0 0).toNat (r.getD 1 0).toNat (r.getD 2 0).toNat 2 lo hi with | none => false | some k => Lib.validD (r.drop (k - 1))) = (tailB r 1 && (decide (lo ≤ (r.getD 0 0).toNat) && decide ((r.getD 0 0).toNat ≤ hi)) && Lib.validD (r.drop 1)) := by
  match r with
  | [] => simp [Lib.checkN, tailB]
  | a :: r =>
    by_cases c1 : lo ≤ a.toNat
    · by_cases c2 : a.toNat ≤ hi
      · have c3 : 128 ≤ a.toNat := by omega
        have c4 : a.toNat ≤ 191 := by omega
        have e : ¬ (a.toNat < lo ∨ hi < a.toNat) := by omega
        have e2 : ¬ (r.length + 1 + 1 < 2) := by omega
        simp [Lib.checkN, tailB, contB, c1, c2, c3, c4, e, e2]
      · have e : a.toNat < lo ∨ hi < a.toNat := by omega
        simp [Lib.checkN, tailB, c2, e]
    · have e : a.toNat < lo ∨ hi < a.toNat := by omega
      simp [Lib.checkN, tailB, c1, e]
theorem chk3 (r : List UInt8) (lo hi : Nat) (hlo : 128 ≤ lo) (hhi : hi ≤ 191) :
    (match Lib.checkN (r.length + 1) (r.getD 0 0).toNat (r.getD 1 0).toNat (r.getD 2 0).toNat 3 lo hi with | none => false | some k => Lib.validD (r.drop (k - 1))) = (tailB r 2 && (decide (lo ≤ (r.getD 0 0).toNat) && decide ((r.getD 0 0).toNat ≤ hi)) && Lib.validD (r.drop 2)) := by
  match r with
  | [] => simp [Lib.checkN, tailB]
  | [a] => simp [Lib.checkN, tailB]
  | a :: a2 :: r =>
    cases hc : contB a2
    · have e : a.toNat < lo ∨ hi < a.toNat ∨ a2.toNat < 128 ∨ 191 < a2.toNat := by
        unfold contB at hc
        simp at hc
        omega
      simp [Lib.checkN, tailB, hc, e]
    · have h2 : 128 ≤ a2.toNat ∧ a2.toNat ≤ 191 := by unfold contB at hc; simpa using hc
      by_cases c1 : lo ≤ a.toNat
      · by_cases c2 : a.toNat ≤ hi
        · have c3 : contB a = true := by unfold contB; simp; omega
          have e : ¬ (a.toNat < lo ∨ hi < a.toNat ∨ a2.toNat < 128 ∨ 191 < a2.toNat) := by omega
          have e2 : ¬ (r.length + 1 + 1 + 1 < 3) := by omega
          simp [Lib.checkN, tailB, c1, c2, c3, hc, e, e2]
        · have e : a.toNat < lo ∨ hi < a.toNat ∨ a2.toNat < 128 ∨ 191 < a2.toNat := by omega
          simp [Lib.checkN, tailB, c2, e]
      · have e : a.toNat < lo ∨ hi < a.toNat ∨ a2.toNat < 128 ∨ 191 < a2.toNat := by omega
        simp [Lib.checkN, tailB, c1, e]
theorem chk4 (r : List UInt8) (lo hi : Nat) (hlo : 128 ≤ lo) (hhi : hi ≤ 191) :
    (match Lib.checkN (r.length + 1) (r.getD 0 0).toNat (r.getD 1 0).toNat (r.getD 2 0).toNat 4 lo hi with | none => false | some k => Lib.validD (r.drop (k - 1))) = (tailB r 3 && (decide (lo ≤ (r.getD 0 0).toNat) && decide ((r.getD 0 0).toNat ≤ hi)) && Lib.validD (r.drop 3)) := by
  match r with
  | [] => simp [Lib.checkN, tailB]
  | [a] => simp [Lib.checkN, tailB]
  | [a, a2] => simp [Lib.checkN, tailB]
  | a :: a2 :: a3 :: r =>
    cases hc : contB a2
    · have e : a.toNat < lo ∨ hi < a.toNat ∨ a2.toNat < 128 ∨ 191 < a2.toNat ∨ a3.toNat < 128 ∨ 191 < a3.toNat := by
        unfold contB at hc
        simp at hc
        omega
      simp [Lib.checkN, tailB, hc, e]
    · have h2 : 128 ≤ a2.toNat ∧ a2.toNat ≤ 191 := by unfold contB at hc; simpa using hc
      cases hd : contB a3
      · have e : a.toNat < lo ∨ hi < a.toNat ∨ a2.toNat < 128 ∨ 191 < a2.toNat ∨ a3.toNat < 128 ∨ 191 < a3.toNat := by
          unfold contB at hd
          simp at hd
          omega
        simp [Lib.checkN, tailB, hd, e]
      · have h3 : 128 ≤ a3.toNat ∧ a3.toNat ≤ 191 := by unfold contB at hd; simpa using hd
        by_cases c1 : lo ≤ a.toNat
        · by_cases c2 : a.toNat ≤ hi
          · have c3 : contB a = true := by unfold contB; simp; omega
            have e : ¬ (a.toNat < lo ∨ hi < a.toNat ∨ a2.toNat < 128 ∨ 191 < a2.toNat ∨ a3.toNat < 128 ∨ 191 < a3.toNat) := by omega
            have e2 : ¬ (r.length + 1 + 1 + 1 + 1 < 4) := by omega
            simp [Lib.checkN, tailB, c1, c2, c3, hc, hd, e, e2]
          · have e : a.toNat < lo ∨ hi < a.toNat ∨ a2.toNat < 128 ∨ 191 < a2.toNat ∨ a3.toNat < 128 ∨ 191 < a3.toNat := by omega
            simp [Lib.checkN, tailB, c2, e]
        · have e : a.toNat < lo ∨ hi < a.toNat ∨ a2.toNat < 128 ∨ 191 < a2.toNat ∨ a3.toNat < 128 ∨ 191 < a3.toNat := by omega
          simp [Lib.checkN, tailB, c1, e]

/-- a lead byte with its table's row -/
theorem utf8_lead {b : UInt8} {r : List UInt8} (n lo hi : Nat) (hn : 1 ≤ n) (hn3 : n ≤ 3) (h0 : 128 ≤ b.toNat) (hlo : 128 ≤ lo) (hhi : hi ≤ 191) (h1 : Lib.firstT b.toNat % 8 = n + 1) (h2 : Lib.accLo (Lib.firstT b.toNat / 16) = lo) (h3 : Lib.accHi (Lib.firstT b.toNat / 16) = hi) :
    Lib.validD (b :: r) = (tailB r n && (decide (lo ≤ (r.getD 0 0).toNat) && decide ((r.getD 0 0).toNat ≤ hi)) && Lib.validD (r.drop n)) := by
  rw [Lib.validD_lead (b :: r) (by simp) (by simpa using h0)]
  have e0 : ((b :: r).getD 0 0).toNat = b.toNat := by simp
  have e1 : ((b :: r).getD 1 0) = r.getD 0 0 := by simp
  have e2 : ((b :: r).getD 2 0) = r.getD 1 0 := by simp
  have e3 : ((b :: r).getD 3 0) = r.getD 2 0 := by simp
  rw [e0, h1, h2, h3, e1, e2, e3, List.length_cons]
  have key : ∀ o : Option Nat, (∀ k, o = some k → 1 ≤ k) → (match o with | none => false | some k => Lib.validD ((b :: r).drop k)) = (match o with | none => false | some k => Lib.validD (r.drop (k - 1))) := by
    intro o ho
    cases o with
    | none => rfl
    | some k =>
      have := ho k rfl
      obtain ⟨m, rfl⟩ : ∃ m, k = m + 1 := ⟨k - 1, by omega⟩
      simp
  refine (key _ ?_).trans ?_
  · intro k hk
    unfold Lib.checkN at hk
    repeat' split at hk
    all_goals first | (cases hk; done) | (injection hk with hk; omega)
  obtain rfl | rfl | rfl : n = 1 ∨ n = 2 ∨ n = 3 := by omega
  · exact chk2 r lo hi hlo hhi
  · exact chk3 r lo hi hlo hhi
  · exact chk4 r lo hi hlo hhi
theorem utf8_bad {b : UInt8} {r : List UInt8} (h : 128 ≤ b.toNat ∧ b.toNat < 194 ∨ 244 < b.toNat) : Lib.validD (b :: r) = false := by
  have h0 : 128 ≤ b.toNat := by omega
  have hb := b.toNat_lt
  rw [Lib.validD_lead (b :: r) (by simp) (by simpa using h0)]
  have e0 : ((b :: r).getD 0 0).toNat = b.toNat := by simp
  have e1 : Lib.firstT b.toNat % 8 = 1 := by
    unfold Lib.firstT
    repeat' split
    all_goals first | rfl | (exfalso; omega)
  rw [e0, e1]
  simp [Lib.checkN]


theorem lead_facts {s : ByteArray} {i n lo hi : Nat} (hn : 1 ≤ n) (h : tailB (s.data.toList.drop (i + 1)) n = true)
    (HV : utf8B s = (tailB (s.data.toList.drop (i + 1)) n && (decide (lo ≤ ((s.data.toList.drop (i + 1)).getD 0 0).toNat) && decide (((s.data.toList.drop (i + 1)).getD 0 0).toNat ≤ hi)) && Lib.validD ((s.data.toList.drop (i + 1)).drop n))) :
    i + 1 + n ≤ s.size ∧ ∃ hx : i + 1 < s.size, (128 ≤ s[i + 1].toNat ∧ s[i + 1].toNat ≤ 191) ∧ utf8B s = (decide (lo ≤ s[i + 1].toNat) && decide (s[i + 1].toNat ≤ hi) && Lib.validD (s.data.toList.drop (i + n + 1))) := by
  have h0 := h
  unfold tailB at h
  simp only [Bool.and_eq_true, decide_eq_true_eq, List.all_eq_true, List.length_drop, Array.length_toList] at h
  have hz : s.data.size = s.size := rfl
  have hsz : i + 1 + n ≤ s.size := by omega
  have hx : i + 1 < s.size := by omega
  have e1 : (s.data.toList.drop (i + 1))[0]? = some s[i + 1] := by rw [List.getElem?_drop]; exact bytes_at s (i + 1) hx
  have e2 : (s.data.toList.drop (i + 1)).getD 0 0 = s[i + 1] := by rw [List.getD_eq_getElem?_getD, e1]; rfl
  refine ⟨hsz, hx, ?_, ?_⟩
  · have := h.2 s[i + 1] (List.mem_of_getElem? (i := 0) (by rw [List.getElem?_take, if_pos (by omega)]; exact e1))
    unfold contB at this
    simpa using this
  · rw [HV, h0, e2, List.drop_drop, show i + 1 + n = i + n + 1 by omega]
    rfl

end Go.Proofs.YtlmmgjgkmbmgpaaGreatDoor
