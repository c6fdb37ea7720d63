/- Contracts of the reference's small functions (package docstoreref10). Printed by gen_georef.py. -/
import Derived.Test.YtefolbfopjfbcaaGeoPure
namespace Go.Proofs.Ytefolbfopjfbcaa
open Go.RowKit

set_option maxHeartbeats 400000 in
theorem rin_any (n : Int) (w : World) :
    Calls Try.prog 38 #[.int .i64 n] w fun e w' => e = .returned (.bool (coordB n)) ∧ w = w' := by
  by_cases h0 : 0 ≤ n
  · by_cases h1 : n < 65536
    · have hc := Lib.hid (coordB_of h0 h1)
      go_enter Try.func38, Try.ntmps38
      go_wp2
      go_ret
      exact ⟨by rw [hc.out]; rfl, rfl⟩
    · have hc := Lib.hid (coordB_not (n := n) (by omega))
      go_enter Try.func38, Try.ntmps38
      go_wp2
      go_ret
      exact ⟨by rw [hc.out]; rfl, rfl⟩
  · have hc := Lib.hid (coordB_not (n := n) (by omega))
    go_enter Try.func38, Try.ntmps38
    go_wp2
    go_ret
    exact ⟨by rw [hc.out]; rfl, rfl⟩

set_option maxHeartbeats 400000 in
theorem ris_any (x y : Int) (w : World) :
    Calls Try.prog 29 #[pt x y] w fun e w' => e = .returned (.bool (pointB x y)) ∧ Below w.heap.size w w' := by
  cases h0 : coordB x
  · have hc : Hid (pointB x y = false) := by simp [pointB, h0, Hid]
    go_enter Try.func29, Try.ntmps29
    go_wp2_with (go_at_call 38; refine (rin_any _ _).mono ?_; rintro e w' ⟨rfl, rfl⟩)
    go_ret
    exact ⟨by rw [hc.out]; rfl, (Below.refl _ _).alloc (Nat.le_refl _) _⟩
  · have hc : Hid (pointB x y = coordB y) := by simp [pointB, h0, Hid]
    go_enter Try.func29, Try.ntmps29
    go_wp2_with (go_at_call 38; refine (rin_any _ _).mono ?_; rintro e w' ⟨rfl, rfl⟩)
    go_ret
    exact ⟨by rw [hc.out]; rfl, (Below.refl _ _).alloc (Nat.le_refl _) _⟩

set_option maxHeartbeats 400000 in
theorem rdistance_any (ax ay bx by' : Int) (w : World) :
    Calls Try.prog 20 #[pt ax ay, pt bx by'] w fun e w' => e = .returned (.int .i64 (distI ax ay bx by')) ∧ Below w.heap.size w w' := by
  cases h0 : pointB ax ay
  · have hc : Hid (distI ax ay bx by' = -1) := by simp [distI, h0, Hid]
    go_enter Try.func20, Try.ntmps20
    go_wp2_with (go_at_call 29; refine (ris_any _ _ _).mono ?_; rintro e w1 ⟨rfl, hb⟩)
    go_ret
    exact ⟨by rw [hc.out]; rfl, (((Below.refl _ _).alloc (Nat.le_refl _) _).alloc (by simp) _).trans (hb.mono (by simp; omega))⟩
  · cases h1 : pointB bx by'
    · have hc : Hid (distI ax ay bx by' = -1) := by simp [distI, h1, Hid]
      go_enter Try.func20, Try.ntmps20
      go_wp2_with fail
      refine (ris_any _ _ _).mono ?_
      rintro e w1 ⟨rfl, hb⟩
      obtain ⟨hc1, hf1⟩ := bcell hb
      go_wp2_with fail
      refine (ris_any _ _ _).mono ?_
      rintro e w2 ⟨rfl, hb2⟩
      go_wp2_with fail
      go_ret
      exact ⟨by rw [hc.out]; rfl, ((((Below.refl _ _).alloc (Nat.le_refl _) _).alloc (by simp) _).trans (hb.mono (by simp; omega))).trans (hb2.mono (by have := hb.size; simp at this; omega))⟩
    · have hc : Hid (distI ax ay bx by' = (ax - bx) * (ax - bx) + (ay - by') * (ay - by')) := by simp [distI, h0, h1, Hid]
      obtain ⟨a1, a2, a3, a4⟩ := pointB_true h0
      obtain ⟨b1, b2, b3, b4⟩ := pointB_true h1
      have sx := sq_bound (a := ax - bx) (b := ax - bx) (by omega) (by omega) (by omega) (by omega)
      have sy := sq_bound (a := ay - by') (b := ay - by') (by omega) (by omega) (by omega) (by omega)
      go_enter Try.func20, Try.ntmps20
      go_wp2_with fail
      refine (ris_any _ _ _).mono ?_
      rintro e w1 ⟨rfl, hb⟩
      obtain ⟨hc1, hf1⟩ := bcell hb
      go_wp2_with fail
      refine (ris_any _ _ _).mono ?_
      rintro e w2 ⟨rfl, hb2⟩
      replace hb := hb.step hb2
      clear hb2 hc1 hf1
      obtain ⟨hc1, hf1⟩ := bcell hb
      go_wp2_with fail
      go_ret
      exact ⟨by rw [hc.out]; rfl, (((Below.refl _ _).alloc (Nat.le_refl _) _).alloc (by simp) _).trans (hb.mono (by simp; omega))⟩

set_option maxHeartbeats 400000 in
theorem rcross_any (ax ay bx by' px py : Int) (w : World) (ha : pointB ax ay = true) (hb : pointB bx by' = true) (hp : pointB px py = true) :
    Calls Try.prog 46 #[pt ax ay, pt bx by', pt px py] w fun e w' => e = .returned (.int .i64 (turnI ax ay bx by' px py)) ∧ Below w.heap.size w w' := by
  obtain ⟨a1, a2, a3, a4⟩ := pointB_true ha
  obtain ⟨b1, b2, b3, b4⟩ := pointB_true hb
  obtain ⟨p1, p2, p3, p4⟩ := pointB_true hp
  clear ha hb hp
  have sx := sq_bound (a := bx - ax) (b := py - ay) (by omega) (by omega) (by omega) (by omega)
  have sy := sq_bound (a := by' - ay) (b := px - ax) (by omega) (by omega) (by omega) (by omega)
  go_enter Try.func46, Try.ntmps46
  go_wp2_with fail
  go_ret
  exact ⟨rfl, (((Below.refl _ _).alloc (Nat.le_refl _) _).alloc (by simp) _).alloc (by simp; omega) _⟩

def betwB (n a b : Int) : Bool := decide (min a b ≤ n) && decide (n ≤ max a b)

set_option maxHeartbeats 400000 in
theorem between_any (n a b : Int) (w : World) :
    Calls Try.prog 35 #[.int .i64 n, .int .i64 a, .int .i64 b] w fun e w' => e = .returned (.bool (betwB n a b)) ∧ w = w' := by
  go_enter Try.func35, Try.ntmps35
  go_wp2_with fail
  all_goals go_ret
  all_goals refine ⟨ret_bool ?_, rfl⟩
  all_goals (rw [Bool.eq_iff_iff]; simp [betwB, *]; try omega)

end Go.Proofs.Ytefolbfopjfbcaa
