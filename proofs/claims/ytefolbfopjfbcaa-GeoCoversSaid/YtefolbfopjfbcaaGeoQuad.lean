/- The least quadrant around a box. -/
import Derived.Test.YtefolbfopjfbcaaGeoCoverPure
namespace Go.Proofs.Ytefolbfopjfbcaa

/-- two numbers agree but for their last k bits -/
def agreeB (a b c d k : Nat) : Bool := a / 2 ^ k == b / 2 ^ k && c / 2 ^ k == d / 2 ^ k
/-- the least k from k0 on, at most k0 + fuel -/
def lk (a b c d : Nat) : Nat → Nat → Nat
  | 0, k => k
  | f + 1, k => if agreeB a b c d k then k else lk a b c d f (k + 1)
theorem lk_stop {a b c d f k : Nat} (h : agreeB a b c d k = true) : lk a b c d f k = k := by
  cases f with
  | zero => rfl
  | succ f => rw [lk, if_pos h]
theorem lk_go {a b c d f k : Nat} (h : agreeB a b c d k = false) (hf : 0 < f) : lk a b c d f k = lk a b c d (f - 1) (k + 1) := by
  cases f with
  | zero => omega
  | succ f => rw [lk, if_neg (by simp [h])]; rfl
theorem lk_le {a b c d : Nat} : ∀ (f k : Nat), k ≤ lk a b c d f k ∧ lk a b c d f k ≤ k + f
  | 0, k => ⟨Nat.le_refl _, Nat.le_refl _⟩
  | f + 1, k => by
    rw [lk]
    split
    · omega
    · have := lk_le (a := a) (b := b) (c := c) (d := d) f (k + 1)
      omega
theorem agree_16 {a b c d : Nat} (ha : a < 65536) (hb : b < 65536) (hc : c < 65536) (hd : d < 65536) : agreeB a b c d 16 = true := by
  unfold agreeB
  rw [show (2 : Nat) ^ 16 = 65536 by decide, Nat.div_eq_of_lt ha, Nat.div_eq_of_lt hb, Nat.div_eq_of_lt hc, Nat.div_eq_of_lt hd]
  rfl
theorem lk_agree {a b c d : Nat} : ∀ (f k : Nat), agreeB a b c d (k + f) = true → agreeB a b c d (lk a b c d f k) = true
  | 0, k, h => h
  | f + 1, k, h => by
    rw [lk]
    split
    · assumption
    · exact lk_agree f (k + 1) (by rw [show k + 1 + f = k + (f + 1) by omega]; exact h)
/-- the size of the least quadrant -/
def kOf (a b c d : Nat) : Nat := lk a b c d 16 0
theorem kOf_le (a b c d : Nat) : kOf a b c d ≤ 16 := by have := lk_le (a := a) (b := b) (c := c) (d := d) 16 0; unfold kOf; omega
theorem kOf_agree {a b c d : Nat} (ha : a < 65536) (hb : b < 65536) (hc : c < 65536) (hd : d < 65536) : a / 2 ^ kOf a b c d = b / 2 ^ kOf a b c d ∧ c / 2 ^ kOf a b c d = d / 2 ^ kOf a b c d := by
  have := lk_agree (a := a) (b := b) (c := c) (d := d) 16 0 (agree_16 ha hb hc hd)
  unfold agreeB at this
  simpa [kOf] using this
/-- a number that lies between two that agree -/
theorem between_agree {k a b x : Nat} (h : a / 2 ^ k = b / 2 ^ k) (h1 : a ≤ x) (h2 : x ≤ b) : ∃ dx, dx < 2 ^ k ∧ x = 2 ^ k * (a / 2 ^ k) + dx := by
  have hp : 0 < 2 ^ k := Nat.two_pow_pos k
  have e1 := Nat.div_le_div_right (c := 2 ^ k) h1
  have e2 := Nat.div_le_div_right (c := 2 ^ k) h2
  have e : x / 2 ^ k = a / 2 ^ k := by omega
  exact ⟨x % 2 ^ k, Nat.mod_lt _ hp, by rw [← e]; exact (Nat.div_add_mod x (2 ^ k)).symm⟩

end Go.Proofs.Ytefolbfopjfbcaa
