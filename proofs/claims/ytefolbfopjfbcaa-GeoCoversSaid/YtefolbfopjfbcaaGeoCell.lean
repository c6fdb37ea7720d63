/- Contracts of geo.Cell and of the reference's Cell. -/
import Derived.Test.YtefolbfopjfbcaaGeoRefPure
import Derived.Test.YtefolbfopjfbcaaGeoMath
namespace Go.Proofs.Ytefolbfopjfbcaa
open Go.RowKit

/-- the cell of a point, -1 of none -/
def cellI (x y : Int) : Int := if pointB x y then (cellN 16 x.toNat y.toNat : Int) else -1

set_option maxHeartbeats 1000000 in
theorem cell_any (x y : Int) (w : World) :
    Calls Try.prog 17 #[pt x y] w fun e w' => e = .returned (.int .i64 (cellI x y)) ∧ Below w.heap.size w w' := by
  cases h0 : pointB x y
  · have HE : Hid (cellI x y = -1) := by simp [cellI, h0, Hid]
    go_enter Try.func17, Try.ntmps17
    go_wp2_with fail
    refine (isPoint_any _ _ _).mono ?_
    rintro e w1 ⟨rfl, hb⟩
    go_wp2_with fail
    go_ret
    exact ⟨by rw [HE.out]; rfl, ((Below.refl _ _).alloc (Nat.le_refl _) _).trans (hb.mono (by simp))⟩
  · have HE : Hid (cellI x y = (cellN 16 x.toNat y.toNat : Int)) := by simp [cellI, h0, Hid]
    obtain ⟨a1, a2, a3, a4⟩ := pointB_true h0
    obtain ⟨X, rfl⟩ := Int.eq_ofNat_of_zero_le a1
    obtain ⟨Y, rfl⟩ := Int.eq_ofNat_of_zero_le a3
    rw [Int.toNat_natCast, Int.toNat_natCast] at HE
    go_enter Try.func17, Try.ntmps17
    go_wp2_with fail
    refine (isPoint_any _ _ _).mono ?_
    rintro e w1 ⟨rfl, hb⟩
    obtain ⟨hc1, hf1⟩ := bcell hb
    have HB := Lib.hid (((Below.refl _ _).alloc (Nat.le_refl _) _).trans (hb.mono (by simp)))
    clear hb
    go_wp2_with fail
    go_loopw [3, 4, 8] (fun v3 v4 v8 wr => ∃ i : Nat, i ≤ 16 ∧ v8 = .int .i64 i ∧ v3 = .int .i64 (cellN i X Y : Nat) ∧ wr.cell? ⟨w.heap.size, 0, none⟩ = some (.int .i64 X) ∧ wr.cell? ⟨w.heap.size, 1, none⟩ = some (.int .i64 Y) ∧ Below w.heap.size w wr) (fun _ _ v8 _ => 16 - (intOf v8).toNat)
    case atStart => exact ⟨0, Nat.zero_le _, rfl, rfl, by simp [hc1], by simp [hc1], HB.out⟩
    case round =>
      obtain ⟨i, hi, rfl, rfl, d0, d1, hb⟩ := hrel
      have HS := Lib.hid (fun h => cell_step X Y i (by omega) (by omega) h)
      by_cases hlt : i < 16
      · have s1 : (0 : Int) ≤ i := by omega
        have s2 : (i : Int) < 16 := by omega
        have hN := cellN_le X Y i hi
        clear hc1 hf1
        go_wp2_with fail
        go_quiet (fail)
        go_wp2_with fail
        go_roundw
        case rel => exact ⟨i + 1, by omega, by go_num, by rw [← HS.out hlt], d0, d1, hb.drewN _⟩
        case measure => simp [intOf]; omega
      · obtain rfl : i = 16 := by omega
        clear hc1 hf1
        go_wp2_with fail
        go_ret
        exact ⟨by rw [HE.out]; rfl, hb⟩

theorem cell_ref_step (N P X Y : Nat) : (N : Int) + P * ((X : Int) % 2) + 2 * P * ((Y : Int) % 2) = ((N + P * (X % 2 + 2 * (Y % 2)) : Nat) : Int) := by
  push_cast
  grind
theorem mul_digit (P X : Nat) (hp : P ≤ 1073741824) : (0 : Int) ≤ (P : Int) * ((X : Int) % 2) ∧ (P : Int) * ((X : Int) % 2) ≤ 1073741824 := by
  rcases Nat.mod_two_eq_zero_or_one X with h | h
  · have : (X : Int) % 2 = 0 := by omega
    rw [this]; omega
  · have : (X : Int) % 2 = 1 := by omega
    rw [this]; omega
theorem mul_digit2 (P X : Nat) (hp : P ≤ 1073741824) : (0 : Int) ≤ 2 * (P : Int) * ((X : Int) % 2) ∧ 2 * (P : Int) * ((X : Int) % 2) ≤ 2147483648 := by
  rcases Nat.mod_two_eq_zero_or_one X with h | h
  · have : (X : Int) % 2 = 0 := by omega
    rw [this]; omega
  · have : (X : Int) % 2 = 1 := by omega
    rw [this]; omega

set_option maxHeartbeats 1000000 in
theorem rcell_any (x y : Int) (w : World) :
    Calls Try.prog 18 #[pt x y] w fun e w' => e = .returned (.int .i64 (cellI x y)) ∧ Below w.heap.size w w' := by
  cases h0 : pointB x y
  · have HE : Hid (cellI x y = -1) := by simp [cellI, h0, Hid]
    go_enter Try.func18, Try.ntmps18
    go_wp2_with fail
    refine (ris_any _ _ _).mono ?_
    rintro e w1 ⟨rfl, hb⟩
    go_wp2_with fail
    go_ret
    exact ⟨by rw [HE.out]; rfl, ((Below.refl _ _).alloc (Nat.le_refl _) _).trans (hb.mono (by simp))⟩
  · have HE : Hid (cellI x y = (cellN 16 x.toNat y.toNat : Int)) := by simp [cellI, h0, Hid]
    obtain ⟨a1, a2, a3, a4⟩ := pointB_true h0
    obtain ⟨X, rfl⟩ := Int.eq_ofNat_of_zero_le a1
    obtain ⟨Y, rfl⟩ := Int.eq_ofNat_of_zero_le a3
    rw [Int.toNat_natCast, Int.toNat_natCast] at HE
    go_enter Try.func18, Try.ntmps18
    go_wp2_with fail
    refine (ris_any _ _ _).mono ?_
    rintro e w1 ⟨rfl, hb⟩
    obtain ⟨hc1, hf1⟩ := bcell hb
    have HB := Lib.hid (((Below.refl _ _).alloc (Nat.le_refl _) _).trans (hb.mono (by simp)))
    clear hb
    go_wp2_with fail
    go_quiet (fail)
    clear hc1 hf1
    go_wp2_with fail
    go_loop [3, 4, 5, 6, 7] (fun v3 v4 v5 v6 v7 => ∃ i : Nat, i ≤ 16 ∧ v7 = .int .i64 i ∧ v3 = .int .i64 (cellN i X Y : Nat) ∧ v4 = .int .i64 (X / 2 ^ i : Nat) ∧ v5 = .int .i64 (Y / 2 ^ i : Nat) ∧ v6 = .int .i64 (4 ^ i : Nat)) (fun _ _ _ _ v7 => 16 - (intOf v7).toNat)
    case atStart => exact ⟨0, Nat.zero_le _, rfl, rfl, by simp, by simp, rfl⟩
    case round =>
      obtain ⟨i, hi, rfl, rfl, rfl, rfl, rfl⟩ := hrel
      by_cases hlt : i < 16
      · have s1 : (0 : Int) ≤ i := by omega
        have s2 : (i : Int) < 16 := by omega
        have hN := cellN_le X Y i hi
        have hp := pow_le_16 hlt
        have hx : X / 2 ^ i ≤ X := Nat.div_le_self _ _
        have hy : Y / 2 ^ i ≤ Y := Nat.div_le_self _ _
        have HS : Hid (cellN (i + 1) X Y = cellN i X Y + 4 ^ i * (X / 2 ^ i % 2 + 2 * (Y / 2 ^ i % 2))) := rfl
        have HX := Lib.hid (div_two_pow_succ X i)
        have HY := Lib.hid (div_two_pow_succ Y i)
        have HP : Hid (4 ^ (i + 1) = 4 ^ i * 4) := Nat.pow_succ ..
        generalize cellN i X Y = N at *
        generalize X / 2 ^ i = X' at *
        generalize Y / 2 ^ i = Y' at *
        generalize 4 ^ i = P at *
        have m1 : (0 : Int) ≤ (P : Int) * ((X' : Int) % 2) ∧ (P : Int) * ((X' : Int) % 2) ≤ 1073741824 := mul_digit P X' hp
        have m2 : (0 : Int) ≤ 2 * (P : Int) * ((Y' : Int) % 2) ∧ 2 * (P : Int) * ((Y' : Int) % 2) ≤ 2147483648 := mul_digit2 P Y' hp
        go_wp2_with fail
        go_round
        case rel =>
          refine ⟨i + 1, by omega, by go_num, ?_, ?_, ?_, ?_⟩
          · rw [HS.out, ← cell_ref_step]
          · rw [HX.out]; go_num
          · rw [HY.out]; go_num
          · rw [HP.out]; go_num
        case measure => simp [intOf]; omega
      · obtain rfl : i = 16 := by omega
        go_wp2_with fail
        go_ret
        exact ⟨by rw [HE.out]; rfl, HB.out.drewN _⟩

end Go.Proofs.Ytefolbfopjfbcaa
