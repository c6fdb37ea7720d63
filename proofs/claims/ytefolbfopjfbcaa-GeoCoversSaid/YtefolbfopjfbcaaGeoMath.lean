/- Plain arithmetic of cells: no program in sight. -/
import Derived.WalkKit
import Derived.WalkLawsBesides
namespace Go.Proofs.Ytefolbfopjfbcaa
open Go.RowKit

/-- the interleaved binary digits below number i of x and y -/
def cellN : Nat → Nat → Nat → Nat
  | 0, _, _ => 0
  | i + 1, x, y => cellN i x y + 4 ^ i * (x / 2 ^ i % 2 + 2 * (y / 2 ^ i % 2))

theorem cellN_lt (i x y : Nat) : cellN i x y < 4 ^ i := by
  induction i with
  | zero => simp [cellN]
  | succ i ih =>
    simp only [cellN, Nat.pow_succ]
    have h : x / 2 ^ i % 2 + 2 * (y / 2 ^ i % 2) ≤ 3 := by omega
    have := Nat.mul_le_mul_left (4 ^ i) h
    omega

theorem ofInt_i64 (a : Nat) (ha : a < 9223372036854775808) : (BitVec.ofInt 64 (a : Int)).toNat = a := by
  rw [BitVec.ofInt_natCast, BitVec.toNat_ofNat]; exact Nat.mod_eq_of_lt (by omega)
theorem i64_and_nat (a b : Nat) (ha : a < 9223372036854775808) (hb : b < 9223372036854775808) : bits .and .i64 (a : Int) (b : Int) = ((a &&& b : Nat) : Int) := by
  have hx : a &&& b < 2 ^ 63 := Nat.and_lt_two_pow _ (by omega)
  show IntKind.i64.wrap ((BitVec.ofInt 64 (a : Int) &&& BitVec.ofInt 64 (b : Int)).toNat : Int) = _
  rw [BitVec.toNat_and, ofInt_i64 a ha, ofInt_i64 b hb, IntKind.wrap_i64]
  omega
theorem i64_or_nat (a b : Nat) (ha : a < 9223372036854775808) (hb : b < 9223372036854775808) : bits .or .i64 (a : Int) (b : Int) = ((a ||| b : Nat) : Int) := by
  have hx : a ||| b < 2 ^ 63 := Nat.or_lt_two_pow (by omega) (by omega)
  show IntKind.i64.wrap ((BitVec.ofInt 64 (a : Int) ||| BitVec.ofInt 64 (b : Int)).toNat : Int) = _
  rw [BitVec.toNat_or, ofInt_i64 a ha, ofInt_i64 b hb, IntKind.wrap_i64]
  omega

theorem or_add (n a k : Nat) (h : n < 2 ^ k) : n ||| a * 2 ^ k = n + a * 2 ^ k := by
  rw [Nat.or_comm, Nat.mul_comm a, ← Nat.two_pow_add_eq_or_of_lt h, Nat.add_comm]

theorem pow_le_16 {i : Nat} (h : i < 16) : 4 ^ i ≤ 1073741824 := by
  have : 4 ^ i ≤ 4 ^ 15 := Nat.pow_le_pow_right (by omega) (by omega)
  exact this

theorem four_pow (i : Nat) : 4 ^ i = 2 ^ (2 * i) := by rw [Nat.pow_mul]

theorem cell_step (x y i : Nat) (hx : x < 65536) (hy : y < 65536) (hi : i < 16) :
    bits BinOp.or IntKind.i64 ((cellN i x y : Nat) : Int)
      (bits BinOp.or IntKind.i64 (wrap64 (bits BinOp.and IntKind.i64 ((x : Int) / 2 ^ i) 1 * 2 ^ (2 * i)))
        (wrap64 (bits BinOp.and IntKind.i64 ((y : Int) / 2 ^ i) 1 * 2 ^ (2 * i + 1)))) = ((cellN (i + 1) x y : Nat) : Int) := by
  have e1 : ∀ z : Nat, z < 65536 → bits BinOp.and IntKind.i64 ((z : Int) / 2 ^ i) 1 = ((z / 2 ^ i % 2 : Nat) : Int) := fun z hz => by
    have h1 : (z : Int) / 2 ^ i = ((z / 2 ^ i : Nat) : Int) := by simp
    have h2 : z / 2 ^ i ≤ z := Nat.div_le_self _ _
    rw [h1, show (1 : Int) = ((1 : Nat) : Int) from rfl, i64_and_nat _ _ (by omega) (by omega), Nat.and_one_is_mod]
  have hp := pow_le_16 hi
  have hf := four_pow i
  have hlt := cellN_lt i x y
  rw [e1 x hx, e1 y hy, show cellN (i + 1) x y = cellN i x y + 4 ^ i * (x / 2 ^ i % 2 + 2 * (y / 2 ^ i % 2)) from rfl]
  have hx2 : x / 2 ^ i % 2 < 2 := Nat.mod_lt _ (by omega)
  have hy2 : y / 2 ^ i % 2 < 2 := Nat.mod_lt _ (by omega)
  generalize x / 2 ^ i % 2 = a at *
  generalize y / 2 ^ i % 2 = b at *
  generalize cellN i x y = n at *
  clear e1
  rw [hf] at hlt hp ⊢
  have ea : ((a : Int) * 2 ^ (2 * i)) = ((a * 2 ^ (2 * i) : Nat) : Int) := by simp
  have eb : ((b : Int) * 2 ^ (2 * i + 1)) = ((b * 2 ^ (2 * i + 1) : Nat) : Int) := by simp
  have hpow : 2 ^ (2 * i + 1) = 2 * 2 ^ (2 * i) := by rw [Nat.pow_succ, Nat.mul_comm]
  have ba : a * 2 ^ (2 * i) ≤ 1 * 2 ^ (2 * i) := Nat.mul_le_mul_right _ (by omega)
  have bb : b * 2 ^ (2 * i + 1) ≤ 1 * 2 ^ (2 * i + 1) := Nat.mul_le_mul_right _ (by omega)
  have hpos : 0 < 2 ^ (2 * i) := Nat.pow_pos (by omega)
  rw [ea, eb, IntWalk.wrap64_in _ ⟨by omega, by omega⟩, IntWalk.wrap64_in _ ⟨by omega, by omega⟩, i64_or_nat _ _ (by omega) (by omega), or_add _ _ _ (by omega)]
  have e2 : a * 2 ^ (2 * i) + b * 2 ^ (2 * i + 1) = (a + 2 * b) * 2 ^ (2 * i) := by rw [hpow, Nat.add_mul, ← Nat.mul_assoc, Nat.mul_comm b 2]
  rw [e2]
  have bc : (a + 2 * b) * 2 ^ (2 * i) ≤ 3 * 2 ^ (2 * i) := Nat.mul_le_mul_right _ (by omega)
  rw [i64_or_nat _ _ (by omega) (by omega), or_add _ _ _ (by omega), Nat.mul_comm]

theorem div_two_pow_succ (x i : Nat) : x / 2 ^ (i + 1) = x / 2 ^ i / 2 := by rw [Nat.pow_succ, Nat.div_div_eq_div_mul]

theorem cellN_le (x y : Nat) (i : Nat) (hi : i ≤ 16) : cellN i x y < 4294967296 := by
  have h1 := cellN_lt i x y
  have : 4 ^ i ≤ 4 ^ 16 := Nat.pow_le_pow_right (by omega) hi
  omega

theorem cellN_inj (i : Nat) : ∀ x y x' y' : Nat, cellN i x y = cellN i x' y' → x % 2 ^ i = x' % 2 ^ i ∧ y % 2 ^ i = y' % 2 ^ i := by
  induction i with
  | zero => intro x y x' y' _; omega
  | succ i ih =>
    intro x y x' y' h
    simp only [cellN] at h
    have l1 := cellN_lt i x y
    have l2 := cellN_lt i x' y'
    have hd : x / 2 ^ i % 2 + 2 * (y / 2 ^ i % 2) = x' / 2 ^ i % 2 + 2 * (y' / 2 ^ i % 2) := by
      have hp : 0 < 4 ^ i := Nat.pow_pos (by omega)
      have h1 := congrArg (· / 4 ^ i) h
      simp only [Nat.add_mul_div_left _ _ hp, Nat.div_eq_of_lt l1, Nat.div_eq_of_lt l2] at h1
      omega
    rw [hd] at h
    obtain ⟨i1, i2⟩ := ih x y x' y' (by omega)
    have m : ∀ z : Nat, z % 2 ^ (i + 1) = z % 2 ^ i + 2 ^ i * (z / 2 ^ i % 2) := fun z => by rw [Nat.pow_succ, Nat.mod_mul]
    rw [m x, m x', m y, m y', i1, i2]
    have d1 : x / 2 ^ i % 2 = x' / 2 ^ i % 2 := by omega
    have d2 : y / 2 ^ i % 2 = y' / 2 ^ i % 2 := by omega
    rw [d1, d2]
    exact ⟨rfl, rfl⟩

end Go.Proofs.Ytefolbfopjfbcaa
