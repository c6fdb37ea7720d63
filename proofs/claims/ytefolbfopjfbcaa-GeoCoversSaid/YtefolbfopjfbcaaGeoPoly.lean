/- The contract of the reference's polygon. -/
import Derived.Test.YtefolbfopjfbcaaGeoRefVal
namespace Go.Proofs.Ytefolbfopjfbcaa
open Go.RowKit
set_option linter.unusedSimpArgs false

abbrev Edge := (Int × Int) × (Int × Int)
def edgeE (px py : Int) (e : Edge) : Bool := edgeB e.1.1 e.1.2 e.2.1 e.2.2 px py
def crossE (px py : Int) (e : Edge) : Bool := crossB e.1.1 e.1.2 e.2.1 e.2.2 px py
def polyE (px py : Int) : Bool → List Edge → Bool
  | odd, [] => odd
  | odd, e :: r => if edgeE px py e then true else polyE px py (if crossE px py e then !odd else odd) r
def edgesR (ps : List (Int × Int)) : List Edge := (List.range ps.length).map fun i => (ps.getD i (0, 0), ps.getD ((i + 1) % ps.length) (0, 0))

theorem turnI_swap (ax ay bx by' px py : Int) : turnI bx by' ax ay px py = - turnI ax ay bx by' px py := by
  simp only [turnI]
  grind
theorem crossB_iff (ax ay bx by' px py : Int) : crossB ax ay bx by' px py = true ↔ (ay ≤ py ∧ py < by' ∧ 0 < turnI ax ay bx by' px py) ∨ (by' ≤ py ∧ py < ay ∧ turnI ax ay bx by' px py < 0) := by
  simp only [crossB]
  by_cases h1 : py < ay <;> by_cases h2 : py < by' <;> simp [h1, h2]
  · omega
  · have h3 : by' < ay := by omega
    rw [if_pos h3, turnI_swap]
    simp
    omega
  · have h3 : ¬ by' < ay := by omega
    rw [if_neg h3]
    simp
    omega

theorem edgesR_at (ps : List (Int × Int)) (i : Nat) (a b : Int × Int) (h1 : ps[i]? = some a) (h2 : ps[(i + 1) % ps.length]? = some b) : (edgesR ps)[i]? = some (a, b) := by
  have hi := (List.getElem?_eq_some_iff.1 h1).1
  simp [edgesR, List.getElem?_range hi, h1, h2]
theorem edgesR_length (ps : List (Int × Int)) : (edgesR ps).length = ps.length := by simp [edgesR]

theorem edgeB_eq (ax ay bx by' px py : Int) : edgeB ax ay bx by' px py = (turnI ax ay bx by' px py == 0 && (betwB px ax bx && betwB py ay by')) := by
  simp only [edgeB, betwB, Bool.and_assoc]
theorem edge_no {ax ay bx by' x y : Int} (h : edgeB ax ay bx by' x y = false) : (turnI ax ay bx by' x y == 0) = false ∨ ((turnI ax ay bx by' x y == 0) = true ∧ (betwB x ax bx = false ∨ (betwB x ax bx = true ∧ betwB y ay by' = false))) := by
  rw [edgeB_eq] at h
  cases h1 : (turnI ax ay bx by' x y == 0) <;> cases h2 : betwB x ax bx <;> cases h3 : betwB y ay by' <;> simp_all
theorem edge_yes {ax ay bx by' x y : Int} (h : edgeB ax ay bx by' x y = true) : (turnI ax ay bx by' x y == 0) = true ∧ betwB x ax bx = true ∧ betwB y ay by' = true := by
  rw [edgeB_eq] at h
  simpa [Bool.and_eq_true] using h

structure PoInv (w : World) (x y : Int) (wr : World) : Prop where
  b0 : Blk wr w.heap.size 27 #[.int .i64 x, .int .i64 y]
  bel : Below w.heap.size w wr
theorem PoInv.step {w wr w' : World} {x y : Int} (h : PoInv w x y wr) (hb : Below wr.heap.size wr w') : PoInv w x y w' := ⟨h.b0.step hb, h.bel.step' hb⟩

set_option maxRecDepth 100000 in
set_option maxHeartbeats 2000000 in
theorem polygon_any (A : Option Addr) (n c : Nat) (ps : List (Int × Int)) (x y : Int) (w : World) (h : RdPts w A n ps) (hn1 : 1 ≤ n) (hn2 : n ≤ 64) (hps : ∀ p ∈ ps, pointB p.1 p.2 = true) (hp : pointB x y = true) :
    Calls Try.prog 36 #[.slice A n c, pt x y] w fun e w' => e = .returned (.bool (polyE x y false (edgesR ps))) ∧ Below w.heap.size w w' := by
  obtain ⟨hl, _, hr⟩ := h
  obtain ⟨b, off, rfl, hb, hc⟩ := hr (by omega)
  have HC := Lib.hid hc
  have HPS := Lib.hid hps
  have HL := Lib.hid hl
  clear hr hc hps hl
  go_enter Try.func36, Try.ntmps36
  go_wp2_with fail
  go_loopw [4, 5, 6, 7, 8, 9] (fun v4 v5 v6 v7 v8 v9 wr => ∃ (i : Nat) (odd : Bool), i ≤ n ∧ v4 = .bool false ∧ v5 = .bool odd ∧ v6 = .int .i64 i ∧ polyE x y false (edgesR ps) = polyE x y odd ((edgesR ps).drop i) ∧ PoInv w x y wr) (fun _ _ v6 _ _ _ _ => n - (intOf v6).toNat)
  case atStart => exact ⟨0, false, Nat.zero_le _, rfl, rfl, rfl, rfl, Blk.new_at rfl, (Below.refl _ _).alloc (Nat.le_refl _) _⟩
  case round =>
    obtain ⟨i, odd, hi, rfl, rfl, rfl, hpoly, I0⟩ := hrel
    have HP := Lib.hid hpoly
    clear hpoly
    by_cases hlt : i < n
    · have hm : (i + 1) % n < n := Nat.mod_lt _ (by omega)
      obtain ⟨⟨ax, ay⟩, hA⟩ : ∃ p, ps[i]? = some p := ⟨_, List.getElem?_eq_getElem (by have := HL.out; omega)⟩
      obtain ⟨⟨bx, by'⟩, hB⟩ : ∃ p, ps[(i + 1) % n]? = some p := ⟨_, List.getElem?_eq_getElem (by have := HL.out; omega)⟩
      have ha := HPS.out _ (List.mem_of_getElem? hA)
      have hbp := HPS.out _ (List.mem_of_getElem? hB)
      simp only at ha hbp
      obtain ⟨a0, a1⟩ := HC.out i ax ay hA
      obtain ⟨b0, b1⟩ := HC.out _ bx by' hB
      have d0 := (I0.bel.cell (p := ⟨b, off + i * 2, none⟩) hb).trans a0
      have d1 := (I0.bel.cell (p := ⟨b, off + i * 2 + 1, none⟩) hb).trans a1
      have d2 := (I0.bel.cell (p := ⟨b, off + (i + 1) % n * 2, none⟩) hb).trans b0
      have d3 := (I0.bel.cell (p := ⟨b, off + (i + 1) % n * 2 + 1, none⟩) hb).trans b1
      have HQ : Hid (polyE x y false (edgesR ps) = if edgeB ax ay bx by' x y then true else polyE x y (if crossB ax ay bx by' x y then !odd else odd) ((edgesR ps).drop (i + 1))) := by
        rw [Hid, HP.out, drop_of (edgesR_at ps i (ax, ay) (bx, by') hA (by rw [HL.out]; exact hB))]; rfl
      have k3 : b < wr.heap.size ∧ b < wr.heap.size + 1 := by have := I0.bel.size; omega
      have m1 : (0 : Int) ≤ ((i : Int) + 1) % (n : Int) := Int.emod_nonneg _ (by omega)
      have m2 : ((i : Int) + 1) % (n : Int) < n := Int.emod_lt_of_pos _ (by omega)
      have J0 := Lib.hid I0
      clear a0 a1 b0 b1 hA hB HP I0
      go_upto_region 5 with fail
      go_cut [7, 8] (fun s7 s8 wx => ∃ g1 g2 : Nat, s7 = .pointer (some ⟨g1, 0, none⟩) ∧ s8 = .pointer (some ⟨g2, 0, none⟩) ∧ Blk wx g1 27 #[.int .i64 ax, .int .i64 ay] ∧ Blk wx g2 27 #[.int .i64 bx, .int .i64 by'] ∧ PoInv w x y wx)
      case first =>
        go_region
        all_goals (go_wp2_with fail; go_meet)
        all_goals first
          | exact ⟨wr.heap.size, wr.heap.size + 1, rfl, rfl, (Blk.new_at rfl).alloc _, Blk.new_at (by simp), (J0.out.b0.alloc _).alloc _, ((J0.out.bel.alloc J0.out.bel.size _).alloc (by have := J0.out.bel.size; simp; omega) _).drew⟩
          | exact ⟨wr.heap.size + 1, wr.heap.size, rfl, rfl, Blk.new_at (by simp), (Blk.new_at rfl).alloc _, (J0.out.b0.alloc _).alloc _, ((J0.out.bel.alloc J0.out.bel.size _).alloc (by have := J0.out.bel.size; simp; omega) _).drew⟩
      case rest =>
        obtain ⟨g1, g2, rfl, rfl, B1, B2, I0⟩ := hcut
        clear d0 d1 d2 d3 m1 m2 k3 J0
        have e0 := I0.b0.cell 0
        have e1 := I0.b0.cell 1
        have e2 := B1.cell 0
        have e3 := B1.cell 1
        have e4 := B2.cell 0
        have e5 := B2.cell 1
        simp at e0 e1 e2 e3 e4 e5
        have J0 := Lib.hid I0
        have J1 := Lib.hid B1
        have J2 := Lib.hid B2
        clear I0 B1 B2
        go_wp2_with fail
        refine (rcross_any _ _ _ _ _ _ _ ha hbp hp).mono ?_
        rintro e w2 ⟨rfl, hb2⟩
        have I0 := J0.out.step hb2
        have B1 := J1.out.step hb2
        have B2 := J2.out.step hb2
        clear hb2 e0 e1 e2 e3 e4 e5 J0 J1 J2
        have e0 := I0.b0.cell 0
        have e1 := I0.b0.cell 1
        have e2 := B1.cell 0
        have e3 := B1.cell 1
        have e4 := B2.cell 0
        have e5 := B2.cell 1
        simp at e0 e1 e2 e3 e4 e5
        have J0 := Lib.hid I0
        clear I0 B1 B2
        cases he : edgeB ax ay bx by' x y
        · have HE := Lib.hid he
          simp only [he, Bool.false_eq_true, if_false] at HQ
          have hed : (turnI ax ay bx by' x y == 0) = false ∨ ((turnI ax ay bx by' x y == 0) = true ∧ (betwB x ax bx = false ∨ (betwB x ax bx = true ∧ betwB y ay by' = false))) := edge_no he
          clear he
          go_upto_region 7 with fail
          go_cut [51] (fun s51 wx => s51 = .bool false ∧ w2 = wx)
          case first =>
            rcases hed with h1 | ⟨h1, h2 | ⟨h2, h3⟩⟩
            all_goals
              go_wp2_with (go_at_call 35; refine (between_any _ _ _ _).mono ?_; rintro e w' ⟨rfl, rfl⟩)
              go_meet
              exact ⟨rfl, rfl⟩
          case rest =>
            obtain ⟨rfl, rfl⟩ := hcut
            clear hed
            have HX := Lib.hid (crossB_iff ax ay bx by' x y)
            go_upto_region 9 with fail
            go_cut [85] (fun s85 wx => s85 = .bool (crossB ax ay bx by' x y) ∧ w2 = wx)
            case first =>
              go_wp2_with fail
              all_goals (go_meet; refine ⟨congrArg Value.bool ?_, rfl⟩)
              all_goals (rw [Bool.eq_iff_iff, HX.out]; clear HX e0 e1 e2 e3 e4 e5 HQ HE J0 HC HPS HL; simp [*]; try omega)
            case rest =>
              obtain ⟨rfl, rfl⟩ := hcut
              cases hx : crossB ax ay bx by' x y
              all_goals
                simp only [hx, Bool.false_eq_true, if_false, if_true] at HQ
                go_wp2_with fail
                go_roundw
                case rel => exact ⟨i + 1, _, by omega, rfl, rfl, by go_num, HQ.out, J0.out⟩
                case measure => simp [intOf]; omega
        · have hed : (turnI ax ay bx by' x y == 0) = true ∧ betwB x ax bx = true ∧ betwB y ay by' = true := edge_yes he
          simp only [he, if_true] at HQ
          clear he
          obtain ⟨h1, h2, h3⟩ := hed
          go_wp2_with (go_at_call 35; refine (between_any _ _ _ _).mono ?_; rintro e w' ⟨rfl, rfl⟩)
          go_ret
          exact ⟨by rw [HQ.out]; rfl, J0.out.bel⟩
    · obtain rfl : i = n := by omega
      have HQ : Hid (polyE x y false (edgesR ps) = odd) := by
        rw [Hid, HP.out, List.drop_of_length_le (by rw [edgesR_length]; have := HL.out; omega)]; rfl
      have J0 := Lib.hid I0
      clear I0
      go_wp2_with fail
      go_ret
      exact ⟨by rw [HQ.out]; rfl, J0.out.bel⟩

end Go.Proofs.Ytefolbfopjfbcaa
