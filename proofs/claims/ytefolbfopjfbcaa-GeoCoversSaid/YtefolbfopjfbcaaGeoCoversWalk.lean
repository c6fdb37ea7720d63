/- The walk of the law GeoCovers. -/
import Derived.Test.YtefolbfopjfbcaaGeoQuadWalk
import Derived.Test.YtefolbfopjfbcaaGeoInsidesWalk
namespace Go.Proofs.Ytefolbfopjfbcaa
open Go.RowKit

def inRB (z : Int) (l : List Rg) : Bool := l.any fun r => decide (r.1 ≤ z) && decide (z ≤ r.2)
theorem inRB_snoc {z : Int} {C : List Rg} {i : Nat} {p q : Int} (h : C[i]? = some (p, q)) : inRB z (C.take (i + 1)) = (inRB z (C.take i) || (decide (p ≤ z) && decide (z ≤ q))) := by
  unfold inRB
  rw [List.take_add_one, h]
  simp
theorem inRB_true {z : Int} {l : List Rg} (h : inR z l) : inRB z l = true := by
  obtain ⟨r, hr, h1, h2⟩ := h
  unfold inRB
  rw [List.any_eq_true]
  exact ⟨r, hr, by simp [h1, h2]⟩
theorem rg_at {A B : Int} {C : List Rg} (h : RgOk A B C) {i : Nat} {p q : Int} (hi : C[i]? = some (p, q)) : p ≤ q ∧ A ≤ p ∧ q < B :=
  ⟨h.ne _ (List.mem_of_getElem? hi), h.lo _ (List.mem_of_getElem? hi), h.hi _ (List.mem_of_getElem? hi)⟩
theorem rg_two {A B : Int} {C : List Rg} (h : RgOk A B C) {j : Nat} {p q p' q' : Int} (hi : C[j + 1]? = some (p, q)) (hj : C[j]? = some (p', q')) : q' + 2 ≤ p := by
  obtain ⟨h1, e1⟩ := List.getElem?_eq_some_iff.1 hi
  obtain ⟨h2, e2⟩ := List.getElem?_eq_some_iff.1 hj
  have := List.pairwise_iff_getElem.1 h.gap j (j + 1) h2 h1 (by omega)
  rw [e1, e2] at this
  exact this
/-- what Inside accepts lies in one of the ranges -/
theorem inside_rg {k : Int} {ps : List (Int × Int)} {r x y : Int} {a b c d : Nat} (h : insideB k ps r x y = true) (hc : cornersOf (bbTo (headP ps).1 (headP ps).2 ps) r = ((a : Int), (c : Int), (b : Int), (d : Int))) (hb : b < 65536) (hd : d < 65536) : inR (cellI x y) (boxR a b c d) := by
  have h1 := inside_in h
  rw [hc] at h1
  unfold InB at h1
  simp only at h1
  obtain ⟨g1, g2, g3, g4⟩ := h1
  obtain ⟨X, rfl⟩ : ∃ X : Nat, x = X := ⟨x.toNat, by omega⟩
  obtain ⟨Y, rfl⟩ : ∃ Y : Nat, y = Y := ⟨y.toNat, by omega⟩
  rw [cellI_nat (by omega) (by omega)]
  exact boxR_in hb hd (by omega) (by omega) (by omega) (by omega)

set_option maxHeartbeats 1000000 in
theorem cover_no (k : Int) (A : Option Addr) (n cc : Nat) (r : Int) (ps : List (Int × Int)) (mo : Int) (w : World) (h : RdPts w A n ps) (hv : validB k ps r = false) :
    Calls Try.prog 21 #[shp k A n cc r, .int .i64 mo] w fun e w' => e = .returned (.slice none 0 0) ∧ Below w.heap.size w w' := by
  have H := Lib.hid h
  have B0 : Hid (Blk (w.alloc (Obj.cells #[.int .i64 k, .slice A n cc, .int .i64 r] 35)) w.heap.size 35 #[.int .i64 k, .slice A n cc, .int .i64 r]) := Blk.new_at rfl
  have BE : Hid (Below w.heap.size w (w.alloc (Obj.cells #[.int .i64 k, .slice A n cc, .int .i64 r] 35))) := (Below.refl _ _).alloc (Nat.le_refl _) _
  go_enter Try.func21, Try.ntmps21
  go_upto_region 1 with fail
  change (Code.region 1 _ _).wp _ _ _ (w.alloc (Obj.cells #[.int .i64 k, .slice A n cc, .int .i64 r] 35))
  generalize w.alloc (Obj.cells #[.int .i64 k, .slice A n cc, .int .i64 r] 35) = wa at *
  have k0 := B0.out.cell 0
  have k1 := B0.out.cell 1
  have k2 := B0.out.cell 2
  simp at k0 k1 k2
  have hva := valid_any k A n cc r ps wa (H.out.below BE.out)
  rw [hv] at hva
  have HVA := Lib.hid hva
  clear hva h hv
  go_wp2_with fail
  refine HVA.out.mono ?_
  rintro e w1 ⟨rfl, hb⟩
  have CE := Lib.hid (BE.out.step' hb)
  clear k0 k1 k2 hb HVA B0 BE
  go_wp2_with fail
  go_ret
  exact ⟨rfl, CE.out⟩

set_option maxRecDepth 100000 in
set_option maxHeartbeats 1000000 in
theorem geoCovers_no (k : Int) (A : Option Addr) (n c : Nat) (r : Int) (ps : List (Int × Int)) (mo x y : Int) (w : World) (h : RdPts w A n ps) (hv : validB k ps r = false) :
    Calls Try.prog 7 #[shp k A n c r, .int .i64 mo, pt x y] w fun e w' => e = .returned (.bool true) ∧ Below w.heap.size w w' := by
  have H := Lib.hid h
  have HV := Lib.hid hv
  have I0 : Hid (ShInv w k A n c r x y ((w.alloc (Obj.cells #[Value.int IntKind.i64 k, Value.slice A n c, Value.int IntKind.i64 r] 35)).alloc (Obj.cells #[Value.int IntKind.i64 x, Value.int IntKind.i64 y] 27))) :=
    ⟨(Blk.new_at rfl).alloc _, Blk.new_at (by simp), ((Below.refl _ _).alloc (Nat.le_refl _) _).alloc (by simp) _⟩
  clear h hv
  go_enter Try.func7, Try.ntmps7
  go_upto_region 1 with fail
  change (Code.region 1 _ _).wp _ _ _ ((w.alloc (Obj.cells #[Value.int IntKind.i64 k, Value.slice A n c, Value.int IntKind.i64 r] 35)).alloc (Obj.cells #[Value.int IntKind.i64 x, Value.int IntKind.i64 y] 27))
  generalize ((w.alloc (Obj.cells #[Value.int IntKind.i64 k, Value.slice A n c, Value.int IntKind.i64 r] 35)).alloc (Obj.cells #[Value.int IntKind.i64 x, Value.int IntKind.i64 y] 27)) = wa at *
  have k0 := I0.out.b0.cell 0
  have k1 := I0.out.b0.cell 1
  have k2 := I0.out.b0.cell 2
  simp at k0 k1 k2
  have HC := Lib.hid (cover_no k A n c r ps mo wa (H.out.below I0.out.bel) HV.out)
  go_wp2_with fail
  refine HC.out.mono ?_
  rintro e w1 ⟨rfl, hb⟩
  have I1 := Lib.hid (I0.out.step hb)
  clear k0 k1 k2 hb HC I0
  have k0 := I1.out.b0.cell 0
  have k1 := I1.out.b0.cell 1
  have k2 := I1.out.b0.cell 2
  simp at k0 k1 k2
  have hr := rvalid_any k A n c r ps w1 (H.out.below I1.out.bel)
  rw [HV.out] at hr
  have HR := Lib.hid hr
  clear hr
  go_upto_region 2 with fail
  go_wp2_with fail
  refine HR.out.mono ?_
  rintro e w2 ⟨rfl, hb⟩
  have I2 := Lib.hid (I1.out.step hb)
  clear k0 k1 k2 hb HR I1
  go_upto_region 3 with fail
  go_wp2_with fail
  refine (awake_any _).mono ?_
  rintro e w3 ⟨rfl, hb⟩
  have I3 := Lib.hid (I2.out.step hb)
  clear I2 hb
  go_wp2_with fail
  go_ret
  exact ⟨rfl, I3.out.bel⟩

set_option maxRecDepth 100000 in
set_option maxHeartbeats 2000000 in
theorem geoCovers_yes (k : Int) (A : Option Addr) (n c : Nat) (r : Int) (ps : List (Int × Int)) (mo x y : Int) (w : World) (h : RdPts w A n ps) (hv : validB k ps r = true) :
    Calls Try.prog 7 #[shp k A n c r, .int .i64 mo, pt x y] w fun e w' => e = .returned (.bool true) ∧ Below w.heap.size w w' := by
  obtain ⟨qa, qb, qc, qd, hcc, g1, g2, g3, g4, g5, g6, g7, g8⟩ := corners_in hv
  have hn64 : n ≤ 64 := by
    obtain ⟨hf, _⟩ := validB_form hv
    have := h.1
    rcases formB_cases hf with h | h | h <;> omega
  obtain ⟨most, hmo⟩ : ∃ most : Nat, max mo 1 = (most : Int) := ⟨(max mo 1).toNat, by omega⟩
  have HCO := Lib.hid fun (w1 : World) (h1 : RdPts w1 A n ps) => cover_any k A n c r ps most qa qb qc qd w1 h1 hv hcc g1 g2 g3 g4 g5 g6 g7 g8 mo hmo
  have HQU := Lib.hid fun (w1 : World) (h1 : RdPts w1 A n ps) => quad_any k A n c r ps qa qb qc qd w1 h1 hcc g1 g2 g3 g4 g5 g6 g7 g8 hn64
  have HIN := Lib.hid fun (e : insideB k ps r x y = true) => inside_rg e hcc g2 g4
  have HTOP : Hid (cell0 qa qb qc qd + 4 ^ kOf qa qb qc qd ≤ 4294967296) := quad_top (kOf_le qa qb qc qd)
  have HPP : Hid (0 < 4 ^ kOf qa qb qc qd) := Nat.pow_pos (by omega)
  have H := Lib.hid h
  have HV := Lib.hid hv
  have HMO := Lib.hid hmo
  have I0 : Hid (ShInv w k A n c r x y ((w.alloc (Obj.cells #[Value.int IntKind.i64 k, Value.slice A n c, Value.int IntKind.i64 r] 35)).alloc (Obj.cells #[Value.int IntKind.i64 x, Value.int IntKind.i64 y] 27))) :=
    ⟨(Blk.new_at rfl).alloc _, Blk.new_at (by simp), ((Below.refl _ _).alloc (Nat.le_refl _) _).alloc (by simp) _⟩
  clear h hv hcc g1 g2 g3 g4 g5 g6 g7 g8 hmo hn64
  generalize boxR qa qb qc qd = L at *
  generalize cell0 qa qb qc qd = C0 at *
  generalize 4 ^ kOf qa qb qc qd = PP at *
  go_enter Try.func7, Try.ntmps7
  go_upto_region 1 with fail
  change (Code.region 1 _ _).wp _ _ _ ((w.alloc (Obj.cells #[Value.int IntKind.i64 k, Value.slice A n c, Value.int IntKind.i64 r] 35)).alloc (Obj.cells #[Value.int IntKind.i64 x, Value.int IntKind.i64 y] 27))
  generalize ((w.alloc (Obj.cells #[Value.int IntKind.i64 k, Value.slice A n c, Value.int IntKind.i64 r] 35)).alloc (Obj.cells #[Value.int IntKind.i64 x, Value.int IntKind.i64 y] 27)) = wa at *
  have k0 := I0.out.b0.cell 0
  have k1 := I0.out.b0.cell 1
  have k2 := I0.out.b0.cell 2
  simp at k0 k1 k2
  have HC := Lib.hid (HCO.out wa (H.out.below I0.out.bel))
  clear HCO
  go_wp2_with fail
  refine HC.out.mono ?_
  rintro e w1 ⟨A', m, c', C, rfl, hsr, hrg, hm1, hm2, hcov, hb⟩
  have I1 := Lib.hid (I0.out.step hb)
  have SRh := Lib.hid hsr
  have RG := Lib.hid hrg
  have CV := Lib.hid hcov
  clear k0 k1 k2 hb HC I0 hsr hrg hcov
  have k0 := I1.out.b0.cell 0
  have k1 := I1.out.b0.cell 1
  have k2 := I1.out.b0.cell 2
  simp at k0 k1 k2
  have hr := rvalid_any k A n c r ps w1 (H.out.below I1.out.bel)
  rw [HV.out] at hr
  have HR := Lib.hid hr
  clear hr
  go_upto_region 2 with fail
  go_wp2_with fail
  refine HR.out.mono ?_
  rintro e w2 ⟨rfl, hb⟩
  have I2 := Lib.hid (I1.out.step hb)
  have S2 := Lib.hid (SRh.out.step hb)
  clear k0 k1 k2 hb HR I1 SRh
  have m1 : (1 : Int) ≤ (m : Int) := by omega
  have hcase : (mo < 1 ∧ ¬ ((m : Int) > 1)) ∨ (1 ≤ mo ∧ ¬ ((m : Int) > mo)) := by have := HMO.out; omega
  go_upto_region 4 with fail
  go_cut [34] (fun v wx => v = .bool false ∧ Below w2.heap.size w2 wx)
  case first =>
    rcases hcase with ⟨a1, a2⟩ | ⟨a1, a2⟩
    all_goals (go_wp2_with fail)
    all_goals go_meet
    all_goals exact ⟨by simp; omega, Below.refl _ _⟩
  case rest =>
    obtain ⟨rfl, hb⟩ := hcut
    have I3 := Lib.hid (I2.out.step hb)
    have S3 := Lib.hid (S2.out.step hb)
    clear hb I2 S2 hcase
    have k0 := I3.out.b0.cell 0
    have k1 := I3.out.b0.cell 1
    have k2 := I3.out.b0.cell 2
    simp at k0 k1 k2
    have HQ := Lib.hid (HQU.out wc (H.out.below I3.out.bel))
    clear HQU
    go_upto_region 6 with fail
    go_wp2_with fail
    refine HQ.out.mono ?_
    rintro e w4 ⟨rfl, hb⟩
    have I4 := Lib.hid (I3.out.step hb)
    have S4 := Lib.hid (S3.out.step hb)
    clear k0 k1 k2 hb HQ I3 S3
    obtain ⟨T, hT⟩ : ∃ T, T = C0 + PP - 1 := ⟨_, rfl⟩
    rw [← hT]
    have HT : Hid (T + 1 = C0 + PP) := by have := HPP.out; unfold Hid; omega
    clear hT
    obtain ⟨bb, off, rfl, hbb, hel⟩ := S4.out.el (by omega)
    have HEL := Lib.hid hel
    have HLN := Lib.hid S4.out.ln
    clear hel S4
    have HZ := Lib.hid (rfl : cellI x y = cellI x y)
    obtain ⟨z, hz⟩ : ∃ z, z = cellI x y := ⟨_, rfl⟩
    have HZC := Lib.hid fun (w1 : World) => rcell_any x y w1
    rw [← hz] at HIN HZC
    clear HZ hz
    have mz : (m : Int) ≤ 4294967296 := by have h1 := RG.out.len_le; have := HTOP.out; have := HLN.out; omega
    go_upto_region 9 with fail
    go_loopw [10, 11] (fun v10 v11 wr => ∃ i : Nat, i ≤ m ∧ v11 = .int .i64 i ∧ v10 = .bool (inRB z (C.take i)) ∧ ShInv w k A n c r x y wr ∧ Below w4.heap.size w4 wr) (fun _ v11 _ => m - (intOf v11).toNat)
    case atStart => exact ⟨0, Nat.zero_le _, rfl, rfl, I4.out, Below.refl _ _⟩
    case round =>
      obtain ⟨i, hi, rfl, rfl, I, hb⟩ := hrel
      clear I4
      by_cases hlt : i < m
      · obtain ⟨⟨p, q⟩, hpq⟩ : ∃ x, C[i]? = some x := ⟨_, List.getElem?_eq_getElem (by have := HLN.out; omega)⟩
        have cx := (hb.cell (p := ⟨bb, off + i * 2 + 0, none⟩) hbb).trans (HEL.out i _ hpq 0 _ rfl)
        have cy := (hb.cell (p := ⟨bb, off + i * 2 + 1, none⟩) hbb).trans (HEL.out i _ hpq 1 _ rfl)
        rw [Nat.add_zero] at cx
        obtain ⟨o1, o2, o3⟩ := rg_at RG.out hpq
        have o4 : q ≤ (T : Int) := by have := HT.out; omega
        have p0 := I.b1.cell 0
        have p1 := I.b1.cell 1
        simp at p0 p1
        have HS := Lib.hid (inRB_snoc (z := z) hpq)
        have HI := Lib.hid I
        have HB := Lib.hid hb
        have i0 : (0 : Int) ≤ (i : Int) := by omega
        have i1 : (i : Int) < (m : Int) := by omega
        have n1 : ¬ (p > q) := by omega
        have n2 : ¬ (p < (C0 : Int)) := by omega
        have n3 : ¬ (q > (T : Int)) := by omega
        go_upto_region 11 with fail
        go_cut [93] (fun v wx => v = .bool false ∧ Below wr.heap.size wr wx)
        case first =>
          have P0 : ∀ q : BW wr, q.val.cell? ⟨bb, off + i * 2, none⟩ = some (.int .i64 p) := fun q => q.cell cx
          have P1 : ∀ q' : BW wr, q'.val.cell? ⟨bb, off + i * 2 + 1, none⟩ = some (.int .i64 q) := fun q' => q'.cell cy
          rcases Nat.eq_zero_or_pos i with hz | hz
          · have i2 : ¬ ((0 : Int) < (i : Int)) := by omega
            have i2n : (decide ((i : Int) > 0)) = false := by simp; omega
            have i2m : ¬ (0 < i) := by omega
            clear cx cy hz
            refine wp_region_bw (by kernel_rfl) (by kernel_rfl) ?_
            repeat (go_big_quiet_step (fail))
            refine wpQuiet_nil ?_
            rintro _ ⟨kw, rfl⟩
            have hkb := kw.below
            clear P0 P1
            generalize kw.val = w6 at *
            clear kw
            go_wp2_with fail
            go_meet
            exact ⟨rfl, hkb⟩
          · obtain ⟨j, hj⟩ : ∃ j, i = j + 1 := ⟨i - 1, by omega⟩
            obtain ⟨⟨p', q'⟩, hpq'⟩ : ∃ x, C[j]? = some x := ⟨_, List.getElem?_eq_getElem (by have := HLN.out; omega)⟩
            have cy' := (HB.out.cell (p := ⟨bb, off + j * 2 + 1, none⟩) hbb).trans (HEL.out j _ hpq' 1 _ rfl)
            have o5 := rg_two RG.out (by rw [← hj]; exact hpq) hpq'
            obtain ⟨_, o6, o7⟩ := rg_at RG.out hpq'
            have o8 : p ≤ 4294967296 := by have := HTOP.out; omega
            have o9 : 0 ≤ p := by omega
            have n4 : ¬ (p - 2 < q') := by omega
            have i2 : (0 : Int) < (i : Int) := by omega
            have i2m : 0 < i := by omega
            have i3 : (i : Int) - 1 = (j : Int) := by omega
            have j0 : (0 : Int) ≤ (j : Int) := by omega
            have j1 : (j : Int) < (m : Int) := by omega
            have P2 : ∀ q1 : BW wr, q1.val.cell? ⟨bb, off + j * 2 + 1, none⟩ = some (.int .i64 q') := fun q1 => q1.cell cy'
            clear cx cy cy' hj hz
            refine wp_region_bw (by kernel_rfl) (by kernel_rfl) ?_
            repeat (go_big_quiet_step (fail))
            refine wpQuiet_nil ?_
            rintro _ ⟨kw, rfl⟩
            have hkb := kw.below
            clear P0 P1 P2
            generalize kw.val = w6 at *
            clear kw
            go_wp2_with fail
            go_meet
            exact ⟨rfl, hkb⟩
        case rest =>
          obtain ⟨rfl, hbc⟩ := hcut
          have I5 := Lib.hid (HI.out.step hbc)
          have HB5 := Lib.hid (HB.out.step' hbc)
          clear HI HB p0 p1 cx cy hbc I hb
          have p0 := I5.out.b1.cell 0
          have p1 := I5.out.b1.cell 1
          simp at p0 p1
          go_upto_region 13 with fail
          go_wp2_with fail
          refine (HZC.out _).mono ?_
          rintro e w6 ⟨rfl, hb6⟩
          have I6 := Lib.hid (I5.out.step hb6)
          have HB6 := Lib.hid (HB5.out.step' hb6)
          clear I5 HB5 p0 p1 hb6
          have cx := (HB6.out.cell (p := ⟨bb, off + i * 2 + 0, none⟩) hbb).trans (HEL.out i _ hpq 0 _ rfl)
          have cy := (HB6.out.cell (p := ⟨bb, off + i * 2 + 1, none⟩) hbb).trans (HEL.out i _ hpq 1 _ rfl)
          rw [Nat.add_zero] at cx
          have HPQ := Lib.hid hpq
          clear hpq
          go_upto_region 14 with fail
          have HLT := Lib.hid hlt
          clear n1 n2 n3 o1 o2 o3 o4 hi hlt
          obtain ⟨hh, hhe⟩ : ∃ hh, hh = inRB z (C.take i) := ⟨_, rfl⟩
          have HS2 : Hid (inRB z (C.take (i + 1)) = (hh || (decide (p ≤ z) && decide (z ≤ q)))) := by rw [Hid, hhe]; exact HS.out
          rw [← hhe]
          clear HS hhe
          cases hh with
          | true =>
            go_wp2_with fail
            go_roundw
            case rel => exact ⟨i + 1, Nat.succ_le_of_lt HLT.out, by go_num, by rw [HS2.out]; rfl, I6.out, HB6.out⟩
            case measure => have := HLT.out; simp [intOf]; omega
          | false =>
            by_cases hp : p ≤ z
            · have HP := Lib.hid hp
              have t1 : z ≥ p := hp
              clear hp
              go_wp2_with fail
              go_roundw
              case rel => exact ⟨i + 1, Nat.succ_le_of_lt HLT.out, by go_num, by rw [HS2.out]; simp [HP.out], I6.out, HB6.out⟩
              case measure => have := HLT.out; simp [intOf]; omega
            · have HP := Lib.hid hp
              have t1 : ¬ (z ≥ p) := hp
              clear hp
              go_wp2_with fail
              go_roundw
              case rel => exact ⟨i + 1, Nat.succ_le_of_lt HLT.out, by go_num, by rw [HS2.out]; simp [HP.out], I6.out, HB6.out⟩
              case measure => have := HLT.out; simp [intOf]; omega
      · obtain rfl : i = m := by omega
        rw [List.take_of_length_le (by have := HLN.out; omega)]
        have p0 := I.b1.cell 0
        have p1 := I.b1.cell 1
        have k0 := I.b0.cell 0
        have k1 := I.b0.cell 1
        have k2 := I.b0.cell 2
        simp at p0 p1 k0 k1 k2
        have HI := Lib.hid I
        clear hlt hi
        have HIS := Lib.hid (inside_any k A n c r ps x y wr (H.out.below I.bel))
        have HF : Hid (insideB k ps r x y = true → inRB z C = true) := fun e => inRB_true (CV.out z (HIN.out e))
        clear I
        cases hR : inRB z C
        · have hin : insideB k ps r x y = false := by
            cases hx : insideB k ps r x y
            · rfl
            · have := HF.out hx
              rw [hR] at this
              cases this
          rw [hin] at HIS
          clear hin HF
          go_upto_region 15 with fail
          go_wp2_with fail
          refine HIS.out.mono ?_
          rintro e w8 ⟨rfl, hb8⟩
          have I8 := Lib.hid (HI.out.step hb8)
          clear HI HIS k0 k1 k2 p0 p1 hb8
          go_wp2_with fail
          refine (awake_any _).mono ?_
          rintro e w9 ⟨rfl, hb9⟩
          have I9 := Lib.hid (I8.out.step hb9)
          clear I8 hb9
          go_wp2_with fail
          go_ret
          exact ⟨rfl, I9.out.bel⟩
        · go_upto_region 15 with fail
          go_wp2_with fail
          refine (awake_any _).mono ?_
          rintro e w9 ⟨rfl, hb9⟩
          have I9 := Lib.hid (HI.out.step hb9)
          clear HI HIS HF k0 k1 k2 p0 p1 hb9
          go_wp2_with fail
          go_ret
          exact ⟨rfl, I9.out.bel⟩

theorem geoCovers_walk (k : Int) (A : Option Addr) (n c : Nat) (r : Int) (ps : List (Int × Int)) (mo x y : Int) (w : World) (h : RdPts w A n ps) :
    Calls Try.prog 7 #[shp k A n c r, .int .i64 mo, pt x y] w fun e w' => e = .returned (.bool true) ∧ Below w.heap.size w w' := by
  cases hv : validB k ps r
  · exact geoCovers_no k A n c r ps mo x y w h hv
  · exact geoCovers_yes k A n c r ps mo x y w h hv

end Go.Proofs.Ytefolbfopjfbcaa
