/- Parts of the proof, joined: MgEndPure, ChValid, ChRefValid. -/
import Derived.Test.YtlmmgjgkmbmgpaaGreatDoorEb15
import Derived.Test.YtlmmgjgkmbmgpaaGreatDoorEb16
import Derived.Test.YtlmmgjgkmbmgpaaGreatDoorEb4
import Derived.Test.YtlmmgjgkmbmgpaaGreatDoorEb6
/- Migrations as plain data: what Orphans deletes. -/
namespace Go.Proofs.YtlmmgjgkmbmgpaaGreatDoor
open Go.RowKit

theorem carry_rems {sp : ByteArray} : ∀ (m docs : List Val), (m.map (remW sp)).foldl carryV docs = docs.filter (fun x => m.all (fun k => !sameId k x))
  | [], docs => by
    show docs = docs.filter (fun _ => true)
    exact (filter_id fun _ _ => rfl).symm
  | k :: m, docs => by
    rw [List.map_cons, List.foldl_cons]
    have e : carryV docs (remW sp k) = docs.filter (fun x => !sameId k x) := by
      unfold carryV remW
      rw [if_neg (show ¬ (3 : Int) = 2 by decide), List.append_nil]
    rw [e, carry_rems m, List.filter_filter]
    congr 1
    funext x
    rw [List.all_cons]
    exact Bool.and_comm _ _
theorem dist_eq {docs : List Val} (h : DistV docs) {x y : Val} (hx : x ∈ docs) (hy : y ∈ docs) (he : cmpV (idV x) (idV y) = 0) : x = y := by
  induction docs with
  | nil => simp at hx
  | cons a r ih =>
    have h2 := List.pairwise_cons.1 h
    have ha := cmpV_anti (idV x) (idV y)
    rcases List.mem_cons.1 hx with hx | hx
    · rcases List.mem_cons.1 hy with hy | hy
      · rw [hx, hy]
      · rw [hx] at he ha
        exact absurd (by omega) (h2.1 y hy)
    · rcases List.mem_cons.1 hy with hy | hy
      · rw [hy] at he ha
        exact absurd (by omega) (h2.1 x hx)
      · exact ih h2.2 hx hy
theorem orphans_law {sp : ByteArray} {docs m : List Val} {p : Val → Bool} (hd : DistV docs) (hm : m.Perm ((docs.filter p).map idV)) : (m.map (remW sp)).foldl carryV docs = docs.filter (fun x => !p x) := by
  rw [carry_rems]
  refine List.filter_congr fun x hx => ?_
  cases hp : p x
  · show _ = true
    rw [List.all_eq_true]
    intro k hk
    obtain ⟨y, hy, rfl⟩ := List.mem_map.1 (hm.mem_iff.1 hk)
    have hy2 := List.mem_filter.1 hy
    unfold sameId
    simp only [Bool.not_eq_true', beq_eq_false_iff_ne]
    intro he
    have := dist_eq hd hx hy2.1 he
    subst this
    rw [hp] at hy2
    cases hy2.2
  · show _ = false
    rw [List.all_eq_false]
    refine ⟨idV x, hm.mem_iff.2 (List.mem_map.2 ⟨x, List.mem_filter.2 ⟨hx, hp⟩, rfl⟩), ?_⟩
    unfold sameId
    simp [cmpV_self]
theorem filter_not_len {α : Type} (p : α → Bool) : ∀ l : List α, (l.filter (fun x => !p x)).length + (l.filter p).length = l.length
  | [] => rfl
  | a :: r => by
    have := filter_not_len p r
    rw [List.filter_cons, List.filter_cons]
    cases p a
    · simp; omega
    · simp; omega
theorem orphans_len {docs m : List Val} {p : Val → Bool} (hm : m.Perm ((docs.filter p).map idV)) : (docs.filter (fun x => !p x)).length + m.length = docs.length := by
  rw [hm.length_eq, List.length_map]
  exact filter_not_len p docs

end Go.Proofs.YtlmmgjgkmbmgpaaGreatDoor



/- The contract of chunks.Valid. Printed by gen_chvalid.py. -/
namespace Go.Proofs.YtlmmgjgkmbmgpaaGreatDoor
open Go.RowKit

theorem linkB_at {l : List Ch} {j : Nat} {x y : Ch} (hx : l[j]? = some x) (hy : l[j + 1]? = some y) : linkB (l.drop j) = ((y.lo.toList == x.hi.toList) && !(Op.bytesLess y.lo.toList x.lo.toList || y.lo.toList == x.lo.toList) && linkB (l.drop (j + 1))) := by
  rw [drop_of hx, drop_of hy, linkB]

end Go.Proofs.YtlmmgjgkmbmgpaaGreatDoor



/- The contract of the reference's Valid. Printed by gen_chvalid.py. -/
namespace Go.Proofs.YtlmmgjgkmbmgpaaGreatDoor
open Go.RowKit

set_option maxRecDepth 100000 in
set_option maxHeartbeats 1000000 in
theorem rvalid49_any (R : Ro) (a : RA) (w : World) (h : RR w a R) : Calls Tryz.prog 7 #[rval a R] w fun e w' => e = .returned (.int .i64 (routE R)) ∧ Below w.heap.size w w' := by
  obtain ⟨KA, kn, kc, CA, cn, cc⟩ := a
  have H := Lib.hid h
  have hn : Hid (cn = R.cs.length) := h.cs.ln
  have hcz : cn * 56 ≤ reach := h.cs.sz
  have hlc : cn ≤ cc := h.cs.sr.lc
  have hkn : cn ≤ 140737488355328 := by unfold reach at hcz; omega
  have HLC := Lib.hid hlc
  clear h hcz hlc
  have B0 : Hid (Blk (w.alloc (Obj.cells (rarr ⟨KA, kn, kc, CA, cn, cc⟩ R) 27)) w.heap.size 27 (rarr ⟨KA, kn, kc, CA, cn, cc⟩ R)) := Blk.new_at rfl
  have BE : Hid (Below w.heap.size w (w.alloc (Obj.cells (rarr ⟨KA, kn, kc, CA, cn, cc⟩ R) 27))) := (Below.refl _ _).alloc (Nat.le_refl _) _
  go_enter Tryz.func7, Tryz.ntmps7
  go_upto_region 1 with fail
  change (Code.region 1 _ _).wp _ _ _ (w.alloc (Obj.cells (rarr ⟨KA, kn, kc, CA, cn, cc⟩ R) 27))
  generalize w.alloc (Obj.cells (rarr ⟨KA, kn, kc, CA, cn, cc⟩ R) 27) = wa at *
  obtain ⟨q0, q1, q2, q3, q4, q5, qz⟩ := blk_ro B0.out
  simp only at q1 q5
  go_wp2_with fail
  clear q0 q1 q2 q3 q4 q5 qz
  refine (rname_any R.sp wa).mono ?_
  rintro e w1 ⟨rfl, rfl⟩
  have D0 := B0
  have DE := BE
  clear B0 BE
  cases hnm : nameB R.sp
  · have HF : Hid (routE R = 9) := by unfold Hid routE; rw [if_pos hnm]
    go_wp2_with fail
    go_ret
    exact ⟨by rw [HF.out]; rfl, DE.out⟩
  obtain ⟨q0, q1, q2, q3, q4, q5, qz⟩ := blk_ro D0.out
  simp only at q1 q5
  go_wp2_with fail
  clear q0 q1 q2 q3 q4 q5 qz
  refine (rshardkey_any R.ks R.ha KA kn kc w1 (H.out.ks.step DE.out)).mono ?_
  rintro e w2 ⟨rfl, hb2⟩
  have F0 := Lib.hid (D0.out.step hb2)
  have FE := Lib.hid (DE.out.step' hb2)
  clear hb2 D0 DE
  by_cases hke : keyE R.ks R.ha = 0
  rotate_left
  · have HF : Hid (routE R = keyE R.ks R.ha) := by unfold Hid routE; rw [if_neg (by simp [hnm]), if_pos hke]
    have hke' : (keyE R.ks R.ha != 0) = true := by simpa using hke
    go_wp2_with fail
    go_ret
    exact ⟨by rw [HF.out]; rfl, FE.out⟩
  have HV : Hid (routE R = if 64 < R.cs.length then 2 else if R.ep < 1 ∨ R.ver < 1 then 1 else if R.cs.any (badC R.ver) then 1 else if endsB R.cs = false then 4 else if linkB R.cs = false then 4 else 0) := by
    unfold Hid routE
    rw [if_neg (by simp [hnm]), if_neg (by simpa using hke)]
  rw [hke]
  clear hke hnm
  obtain ⟨q0, q1, q2, q3, q4, q5, qz⟩ := blk_ro F0.out
  simp only at q1 q5
  by_cases h64 : 64 < cn
  · have HF : Hid (routE R = 2) := by rw [Hid, HV.out, if_pos (by rw [← hn.out]; exact h64)]
    go_wp2_with fail
    go_ret
    exact ⟨by rw [HF.out]; rfl, FE.out⟩
  have HV1 : Hid (routE R = if R.ep < 1 ∨ R.ver < 1 then 1 else if R.cs.any (badC R.ver) then 1 else if endsB R.cs = false then 4 else if linkB R.cs = false then 4 else 0) := by rw [Hid, HV.out, if_neg (by rw [← hn.out]; exact h64)]
  clear HV
  by_cases hep : R.ep < 1
  · have HF : Hid (routE R = 1) := by rw [Hid, HV1.out, if_pos (.inl hep)]
    go_wp2_with fail
    go_ret
    exact ⟨by rw [HF.out]; rfl, FE.out⟩
  by_cases hve : R.ver < 1
  · have HF : Hid (routE R = 1) := by rw [Hid, HV1.out, if_pos (.inr hve)]
    go_wp2_with fail
    go_ret
    exact ⟨by rw [HF.out]; rfl, FE.out⟩
  have HV2 : Hid (routE R = if R.cs.any (badC R.ver) then 1 else if endsB R.cs = false then 4 else if linkB R.cs = false then 4 else 0) := by rw [Hid, HV1.out, if_neg (by omega)]
  clear HV1
  have HEP := Lib.hid hep
  have HVE := Lib.hid hve
  go_wp2_with fail
  clear q0 q1 q2 q3 q4 q5 qz hep hve
  go_loopw [4] (fun v wr => ∃ i : Nat, i ≤ cn ∧ v = .int .i64 i ∧ R.cs.any (badC R.ver) = (R.cs.drop i).any (badC R.ver) ∧ Blk wr w.heap.size 27 (rarr ⟨KA, kn, kc, CA, cn, cc⟩ R) ∧ Below w.heap.size w wr) (fun v _ => cn - (intOf v).toNat)
  case atStart => exact ⟨0, Nat.zero_le _, rfl, rfl, F0.out, FE.out⟩
  case round =>
    obtain ⟨i, hi, rfl, hany, hblk, hbel⟩ := hrel
    have HA := Lib.hid hany
    have HB := Lib.hid hbel
    have HK := Lib.hid hblk
    clear hany
    obtain ⟨q0, q1, q2, q3, q4, q5, qz⟩ := blk_ro hblk
    simp only at q1 q5
    have hNl := hblk.lt
    by_cases hlt : i < cn
    · obtain ⟨b, off, x, hA, hb, hx, e0, e1, e2, e3, e4⟩ := H.out.cs.sr.at5 hlt
      simp only at hA
      subst hA
      have HX : Hid ((R.cs.drop i).any (badC R.ver) = (badC R.ver x || (R.cs.drop (i + 1)).any (badC R.ver))) := by rw [Hid, drop_of hx]; rfl
      have g0 := (hbel.cell (p := ⟨b, off + i * 5, none⟩) hb).trans e0
      have g1 := (hbel.cell (p := ⟨b, off + i * 5 + 1, none⟩) hb).trans e1
      have g2 := (hbel.cell (p := ⟨b, off + i * 5 + 2, none⟩) hb).trans e2
      have g3 := (hbel.cell (p := ⟨b, off + i * 5 + 3, none⟩) hb).trans e3
      have g4 := (hbel.cell (p := ⟨b, off + i * 5 + 4, none⟩) hb).trans e4
      have hbw : b < wr.heap.size := by have := hbel.size; omega
      obtain ⟨xlo, xhi, xsh, xver, xju⟩ := x
      simp only at g0 g1 g2 g3 g4
      have HBA := Lib.hid (HB.out.alloc HB.out.size (Obj.cells #[.string xlo, .string xhi, .int .i64 xsh, .int .i64 xver, .bool xju] 80))
      have HKA := Lib.hid (HK.out.alloc (Obj.cells #[.string xlo, .string xhi, .int .i64 xsh, .int .i64 xver, .bool xju] 80))
      clear hx e0 e1 e2 e3 e4 hbel hblk
      by_cases ha : xsh < 0
      · have HF : Hid (routE R = 1) := by rw [Hid, HV2.out, if_pos (by rw [HA.out, HX.out]; unfold badC; rw [decide_eq_true ha]; simp)]
        go_wp2_with fail
        go_ret
        exact ⟨by rw [HF.out]; rfl, HBA.out⟩
      by_cases hb8 : 8 ≤ xsh
      · have HF : Hid (routE R = 1) := by rw [Hid, HV2.out, if_pos (by rw [HA.out, HX.out]; unfold badC; rw [decide_eq_true hb8, Bool.or_true]; rfl)]
        go_wp2_with fail
        go_ret
        exact ⟨by rw [HF.out]; rfl, HBA.out⟩
      by_cases hc1 : xver < 1
      · have HF : Hid (routE R = 1) := by rw [Hid, HV2.out, if_pos (by rw [HA.out, HX.out]; unfold badC; rw [decide_eq_true hc1, Bool.or_true]; rfl)]
        go_wp2_with fail
        go_ret
        exact ⟨by rw [HF.out]; rfl, HBA.out⟩
      by_cases hd : R.ver < xver
      · have HF : Hid (routE R = 1) := by rw [Hid, HV2.out, if_pos (by rw [HA.out, HX.out]; unfold badC; rw [decide_eq_true hd, Bool.or_true]; rfl)]
        go_wp2_with fail
        go_ret
        exact ⟨by rw [HF.out]; rfl, HBA.out⟩
      have HN : Hid (R.cs.any (badC R.ver) = (R.cs.drop (i + 1)).any (badC R.ver)) := by
        rw [Hid, HA.out, HX.out]
        unfold badC
        rw [decide_eq_false ha, decide_eq_false hb8, decide_eq_false hc1, decide_eq_false hd]
        rfl
      go_wp2_with fail
      go_roundw
      case rel => exact ⟨i + 1, by omega, by go_num, HN.out, HKA.out, HBA.out⟩
      case measure => simp [intOf]; omega
    · have HN : Hid (routE R = if endsB R.cs = false then 4 else if linkB R.cs = false then 4 else 0) := by
        rw [Hid, HV2.out, if_neg]
        rw [HA.out, List.drop_of_length_le (by rw [← hn.out]; omega)]
        simp
      clear hbel hblk HV2 HA
      obtain rfl : i = cn := by omega
      by_cases hz : i = 0
      · have HF : Hid (routE R = 4) := by
          have : R.cs = [] := List.eq_nil_of_length_eq_zero (by rw [← hn.out]; exact hz)
          rw [Hid, HN.out, if_pos (by rw [this]; rfl)]
        subst hz
        go_wp2_with fail
        go_ret
        exact ⟨by rw [HF.out]; rfl, HB.out⟩
      have hz0 : ((i : Int) == 0) = false := by simp; omega
      have hzi : (0 : Int) < (i : Int) := by omega
      obtain ⟨b, off, x, hA, hb, hx, e0, _, _, _, _⟩ := H.out.cs.sr.at5 (i := 0) (by show 0 < i; omega)
      simp only at hA
      subst hA
      have HX0 := Lib.hid hx
      have g0 := (HB.out.cell (p := ⟨b, off + 0 * 5, none⟩) hb).trans e0
      simp only [Nat.zero_mul, Nat.add_zero] at g0
      cases hlo : (x.lo.toList == [])
      · have HF : Hid (routE R = 4) := by
          rw [Hid, HN.out, if_pos]
          obtain ⟨c, r, hcr⟩ : ∃ c r, R.cs = c :: r := by
            cases hc : R.cs with
            | nil => rw [hc] at hx; cases hx
            | cons c r => exact ⟨c, r, rfl⟩
          rw [hcr] at hx ⊢
          simp at hx
          subst hx
          rw [endsB, hlo]
          rfl
        clear hx e0
        go_wp2_with fail
        go_ret
        exact ⟨by rw [HF.out]; rfl, HB.out⟩
      obtain ⟨b', off', y, hA, _, hy, _, e1, _, _, _⟩ := H.out.cs.sr.at5 (i := i - 1) (by show i - 1 < i; omega)
      simp only at hA
      injection hA with hA
      injection hA with hA1 hA2
      subst hA1 hA2
      have HY0 := Lib.hid hy
      have g1 := (HB.out.cell (p := ⟨b, off + (i - 1) * 5 + 1, none⟩) hb).trans e1
      have hw1 : IntKind.i64.wrap ((i : Int) - 1) = (i : Int) - 1 := by rw [IntKind.wrap_i64]; omega
      have hi1 : (0 : Int) ≤ (i : Int) - 1 := by omega
      have hi2 : (i : Int) - 1 < (i : Int) := by omega
      have hi3 : ((i : Int) - 1).toNat = i - 1 := by omega
      have HEN : Hid (endsB R.cs = (y.hi.toList == [])) := by
        obtain ⟨c, r, hcr⟩ : ∃ c r, R.cs = c :: r := by
          cases hc : R.cs with
          | nil => rw [hc] at hx; cases hx
          | cons c r => exact ⟨c, r, rfl⟩
        have hl := hn.out
        rw [hcr] at hx hy hl ⊢
        simp at hx
        subst hx
        have hyl : (c :: r).getLast? = some y := by rw [List.getLast?_eq_getElem?, ← hy, hl]
        rw [Hid, endsB, hlo, hyl]
        simp
      clear hx hy e0 e1
      cases hhi : (y.hi.toList == [])
      · have HF : Hid (routE R = 4) := by rw [Hid, HN.out, if_pos (by rw [HEN.out, hhi])]
        go_wp2_with fail
        go_ret
        exact ⟨by rw [HF.out]; rfl, HB.out⟩
      have HL : Hid (routE R = if linkB R.cs = false then 4 else 0) := by rw [Hid, HN.out, if_neg (by rw [HEN.out, hhi]; simp)]
      clear HN HEN
      have hl1 : Hid (linkB R.cs = linkB (R.cs.drop 0)) := rfl
      by_cases hn1 : i = 1
      · have HF : Hid (routE R = 0) := by
          rw [Hid, HL.out, if_neg]
          obtain ⟨c, hc⟩ : ∃ c, R.cs = [c] := by
            have := hn.out
            rw [hn1] at this
            match hcs : R.cs, this with
            | [c], _ => exact ⟨c, rfl⟩
          rw [hc]
          simp [linkB]
        subst hn1
        go_wp2_with fail
        all_goals
          go_loopw [6] (fun v wr => v = .int .i64 1 ∧ Blk wr w.heap.size 27 (rarr ⟨KA, kn, kc, some ⟨b, off, none⟩, 1, cc⟩ R) ∧ Below w.heap.size w wr) (fun _ _ => 0)
          case atStart => exact ⟨rfl, HK.out, HB.out⟩
          case round =>
            obtain ⟨rfl, hblk, hbel⟩ := hrel
            obtain ⟨q0, q1, q2, q3, q4, q5, qz⟩ := blk_ro hblk
            simp only at q1 q5
            go_wp2_with fail
            go_ret
            exact ⟨by rw [HF.out]; rfl, hbel⟩
      have hi22 : 2 ≤ i := by omega
      have hcc1 : (cc = 1) = False := by simp; have := HLC.out; omega
      have hcc2 : (1 : Int) ≤ (i : Int) := by omega
      go_wp2_with fail
      clear q0 q1 q2 q3 q4 q5 qz hlo hhi g0 g1 hw1 hi1 hi2 hi3
      obtain ⟨wo, hwo⟩ : ∃ wo : World, wo = wr := ⟨_, rfl⟩
      rw [← hwo] at HB HK ⊢
      clear hwo
      go_loopw [6] (fun v wr => ∃ j : Nat, j + 1 ≤ i ∧ v = .int .i64 ((j : Int) + 1) ∧ linkB R.cs = linkB (R.cs.drop j) ∧ Blk wr w.heap.size 27 (rarr ⟨KA, kn, kc, some ⟨b, off, none⟩, i, cc⟩ R) ∧ Below w.heap.size w wr) (fun v _ => i - (intOf v).toNat)
      case atStart => exact ⟨0, by omega, rfl, rfl, HK.out, HB.out⟩
      case round =>
        obtain ⟨j, hj, rfl, hlk, hblk, hbel⟩ := hrel
        have HLK := Lib.hid hlk
        have HB2 := Lib.hid hbel
        have HK2 := Lib.hid hblk
        clear hlk
        obtain ⟨q0, q1, q2, q3, q4, q5, qz⟩ := blk_ro hblk
        simp only at q1 q5
        have hNl := hblk.lt
        by_cases hjl : j + 1 < i
        · obtain ⟨b1, off1, x, hA, hbb, hx, e0, e1, _, _, _⟩ := H.out.cs.sr.at5 (i := j) (by show j < i; omega)
          simp only at hA
          injection hA with hA
          injection hA with hA1 hA2
          subst hA1 hA2
          obtain ⟨b1, off1, y, hA, _, hy, f0, f1, f2, f3, f4⟩ := H.out.cs.sr.at5 (i := j + 1) hjl
          simp only at hA
          injection hA with hA
          injection hA with hA1 hA2
          subst hA1 hA2
          have HX := Lib.hid (linkB_at hx hy)
          replace e0 := (hbel.cell (p := ⟨b, off + j * 5, none⟩) hbb).trans e0
          replace e1 := (hbel.cell (p := ⟨b, off + j * 5 + 1, none⟩) hbb).trans e1
          replace f0 := (hbel.cell (p := ⟨b, off + (j + 1) * 5, none⟩) hbb).trans f0
          clear f1 f2 f3 f4
          have hbw : b < wr.heap.size := by have := hbel.size; omega
          obtain ⟨xlo, xhi, xsh, xver, xju⟩ := x
          obtain ⟨ylo, yhi, ysh, yver, yju⟩ := y
          simp only at e0 e1 f0
          simp only at HX
          have j0 : (0 : Int) ≤ (j : Int) := by omega
          have j1 : (j : Int) < (i : Int) := by omega
          have j2 : (j : Int) + 1 < (i : Int) := by omega
          have j3 : ((j : Int) + 1).toNat = j + 1 := by omega
          have j4 : (0 : Int) ≤ (j : Int) + 1 := by omega
          have j5 : IntKind.i64.wrap ((j : Int) + 1 - 1) = (j : Int) := by rw [IntKind.wrap_i64]; omega
          have j6 : IntKind.i64.wrap (j : Int) = (j : Int) := by rw [IntKind.wrap_i64]; omega
          have j7 : (j : Int) < (i : Int) - 1 := by omega
          clear hx hy hbel hblk
          go_upto_region 21 with fail
          have X0 : ∀ kk : BW wr, kk.val.cell? ⟨w.heap.size, 5, none⟩ = some (.slice (some ⟨b, off, none⟩) i cc) := fun kk => kk.cell (blk_ro HK2.out).2.2.2.2.2.1
          have X1 : ∀ kk : BW wr, kk.val.cell? ⟨b, off + (j + 1) * 5, none⟩ = some (.string ylo) := fun kk => kk.cell f0
          have X2 : ∀ kk : BW wr, kk.val.cell? ⟨b, off + j * 5, none⟩ = some (.string xlo) := fun kk => kk.cell e0
          have X3 : ∀ kk : BW wr, kk.val.cell? ⟨b, off + j * 5 + 1, none⟩ = some (.string xhi) := fun kk => kk.cell e1
          clear q0 q1 q2 q3 q4 q5 qz e0 e1 f0
          cases hq : (ylo.toList == xhi.toList)
          rotate_left
          cases hr : Op.bytesLess ylo.toList xlo.toList
          cases hs : (ylo.toList == xlo.toList)
          all_goals
            refine wp_region_bw (by kernel_rfl) (by kernel_rfl) ?_
            repeat (go_big_quiet_step (fail))
            refine wpQuiet_nil ?_
            rintro _ ⟨kw, rfl⟩
            have HKW := Lib.hid kw.below
            generalize kw.val = w5 at *
            clear X0 X1 X2 X3
          rotate_left
          case' false | true.true | true.false.true =>
            have HF : Hid (routE R = 4) := by rw [Hid, HL.out, if_pos (by rw [HLK.out, HX.out]; first | (rw [hq, hr, hs]; rfl) | (rw [hq, hr]; rfl) | (rw [hq]; rfl))]
            go_wp2_with fail
            go_ret
            exact ⟨by rw [HF.out]; rfl, HB2.out.step' HKW.out⟩
          all_goals
            have HF : Hid (linkB R.cs = linkB (R.cs.drop (j + 1))) := by rw [Hid, HLK.out, HX.out, hq, hr, hs]; rfl
            go_wp2_with fail
            go_roundw
            case rel => exact ⟨j + 1, by omega, by go_num, HF.out, HK2.out.step HKW.out, HB2.out.step' HKW.out⟩
            case measure => simp [intOf]; omega
        · have HF : Hid (routE R = 0) := by
            rw [Hid, HL.out, if_neg]
            rw [HLK.out]
            obtain ⟨c, hc⟩ : ∃ c, R.cs.drop j = [c] := by
              have hl := List.length_drop (l := R.cs) (i := j)
              rw [← hn.out] at hl
              match hcs : R.cs.drop j, (show (R.cs.drop j).length = 1 by omega) with
              | [c], _ => exact ⟨c, rfl⟩
            rw [hc]
            simp [linkB]
          clear hbel hblk
          have j8 : ¬ (j : Int) < (i : Int) - 1 := by omega
          have j9 : ¬ (j : Int) + 1 < (i : Int) := by omega
          go_wp2_with fail
          go_ret
          exact ⟨by rw [HF.out]; rfl, HB2.out⟩

end Go.Proofs.YtlmmgjgkmbmgpaaGreatDoor


