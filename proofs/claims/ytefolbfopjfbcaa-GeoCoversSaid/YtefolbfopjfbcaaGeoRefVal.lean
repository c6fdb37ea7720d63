/- Contract of the reference's Valid. -/
import Derived.Test.YtefolbfopjfbcaaGeoInside
import Derived.Test.YtefolbfopjfbcaaGeoRefPure
namespace Go.Proofs.Ytefolbfopjfbcaa
open Go.RowKit
set_option linter.unusedSimpArgs false

theorem valid_long (k : Int) (ps : List (Int × Int)) (r : Int) (h : 64 < ps.length) : validB k ps r = false := by
  cases hv : validB k ps r
  · rfl
  · rcases formB_cases (validB_form hv).1 with h | h | h <;> omega
theorem valid_at' (k : Int) (ps : List (Int × Int)) (r : Int) (i : Nat) (x y : Int) (hi : ps[i]? = some (x, y)) (hp : pointB x y = false) : validB k ps r = false := by
  cases hf : formB k ps.length r
  · exact valid_form k ps r hf
  · exact valid_at k ps r hf i x y hi hp
theorem valid_pts (k : Int) (ps : List (Int × Int)) (r : Int) (hp : ∀ (i : Nat) x y, ps[i]? = some (x, y) → pointB x y = true) : validB k ps r = formB k ps.length r := by
  cases hf : formB k ps.length r
  · exact valid_form k ps r hf
  · exact valid_all k ps r hf hp

set_option maxHeartbeats 1000000 in
theorem rvalid_any (k : Int) (A : Option Addr) (n c : Nat) (r : Int) (ps : List (Int × Int)) (w : World) (h : RdPts w A n ps) :
    Calls Try.prog 16 #[shp k A n c r] w fun e w' => e = .returned (.int .i64 (errOf (validB k ps r))) ∧ Below w.heap.size w w' := by
  have hn := h.2.1
  unfold maxLen at hn
  by_cases h64 : 64 < n
  · have HV := Lib.hid (valid_long k ps r (by rw [h.1]; exact h64))
    clear h
    go_enter Try.func16, Try.ntmps16
    go_wp2_with fail
    go_ret
    exact ⟨by rw [HV.out]; rfl, (Below.refl _ _).alloc (Nat.le_refl _) _⟩
  · have HL := Lib.hid h
    clear h
    go_enter Try.func16, Try.ntmps16
    go_wp2_with fail
    go_loopw [2, 4] (fun v2 v4 wr => ∃ i : Nat, i ≤ n ∧ v2 = .int .i64 0 ∧ v4 = .int .i64 i ∧ (∀ (j : Nat) x y, j < i → ps[j]? = some (x, y) → pointB x y = true) ∧ Blk wr w.heap.size 35 #[Value.int IntKind.i64 k, Value.slice A n c, Value.int IntKind.i64 r] ∧ Below w.heap.size w wr) (fun _ v4 _ => n - (intOf v4).toNat)
    case atStart => exact ⟨0, Nat.zero_le _, rfl, rfl, fun j _ _ h => by omega, Blk.new_at rfl, (Below.refl _ _).alloc (Nat.le_refl _) _⟩
    case round =>
      obtain ⟨i, hi, rfl, rfl, hall, N1, N2⟩ := hrel
      have e0 := N1.cell 0
      have e1 := N1.cell 1
      have e2 := N1.cell 2
      simp at e0 e1 e2
      by_cases hlt : i < n
      · obtain ⟨hl, _, hr⟩ := HL.out
        obtain ⟨b, off, rfl, hb, hc⟩ := hr (by omega)
        obtain ⟨⟨x, y⟩, hxy⟩ : ∃ p, ps[i]? = some p := ⟨_, List.getElem?_eq_getElem (by omega)⟩
        obtain ⟨c0, c1⟩ := hc i x y hxy
        have d0 := (N2.cell (p := ⟨b, off + i * 2, none⟩) hb).trans c0
        have d1 := (N2.cell (p := ⟨b, off + i * 2 + 1, none⟩) hb).trans c1
        have HX := Lib.hid hxy
        have HA := Lib.hid hall
        have J1 := Lib.hid N1
        have J2 := Lib.hid N2
        clear hl hr hc c0 c1 hxy hall N1 N2
        go_wp2_with fail
        refine (ris_any _ _ _).mono ?_
        rintro e w1 ⟨rfl, hb1⟩
        have K1 := Lib.hid (J1.out.step hb1)
        have K2 := Lib.hid (J2.out.step' hb1)
        clear hb1 J1 J2 e0 e1 e2 d0 d1
        cases hp : pointB x y
        · have HV := Lib.hid (valid_at' k ps r i x y HX.out hp)
          go_wp2_with fail
          go_ret
          exact ⟨by rw [HV.out]; rfl, K2.out⟩
        · have HP := Lib.hid hp
          go_wp2_with fail
          go_roundw
          case rel =>
            refine ⟨i + 1, by omega, rfl, by go_num, fun j x' y' hj hjx => ?_, K1.out, K2.out⟩
            by_cases e : j = i
            · subst e
              have := HX.out.symm.trans hjx
              simp at this
              obtain ⟨rfl, rfl⟩ := this
              exact HP.out
            · exact HA.out j x' y' (by omega) hjx
          case measure => simp [intOf]; omega
      · obtain rfl : i = n := by omega
        have HV := Lib.hid (valid_pts k ps r (fun j x y hj => hall j x y (by
            have := (List.getElem?_eq_some_iff.1 hj).1
            have := HL.out.1
            omega) hj))
        have HN := Lib.hid HL.out.1
        have J2 := Lib.hid N2
        clear hall N1 N2 HL
        go_wp2_with (go_at_call 38; refine (rin_any _ _).mono ?_; rintro e w' ⟨rfl, rfl⟩)
        all_goals go_ret
        all_goals refine ⟨ret_int ?_, J2.out⟩
        all_goals (have hv := HV.out; rw [HN.out] at hv; clear HV HN J2; first | (simp [hv, formB, errOf, *]; done) | (simp [hv, formB, errOf, *]; omega) | (simp_all [formB, errOf]; done) | (simp_all [formB, errOf]; omega))

end Go.Proofs.Ytefolbfopjfbcaa
