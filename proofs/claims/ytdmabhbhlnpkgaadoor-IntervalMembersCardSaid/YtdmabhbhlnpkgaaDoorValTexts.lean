/- Contracts of the reference's Ints and Texts. -/
import Derived.Test.YtdmabhbhlnpkgaaDoorValCmp
import Derived.Test.YtdmabhbhlnpkgaaDoorValEach
namespace Go.Proofs.YtdmabhbhlnpkgaaDoor
open Go.RowKit

set_option maxHeartbeats 1000000 in
theorem rints_any (x y : Int) (w : World) : Calls Tryd.prog 43 #[.int .i64 x, .int .i64 y] w fun e w' => e = .returned (.int .i64 (cmpI x y)) ∧ w' = w := by
  go_enter Tryd.func43, Tryd.ntmps43
  go_wp2
  all_goals (go_ret; refine ⟨?_, rfl⟩; unfold cmpI Lib.compareInt; (repeat' split) <;> first | rfl | (exfalso; omega))

theorem bytes_drop (a : ByteArray) (i : Nat) (h : i < a.size) : a.data.toList.drop i = a[i] :: a.data.toList.drop (i + 1) := by
  rw [List.drop_eq_getElem_cons (by simpa using h)]
  rfl
theorem cmpBy_end {l m : List UInt8} {i : Nat} (h1 : i ≤ l.length) (h2 : i ≤ m.length) (h : l.length ≤ i ∨ m.length ≤ i) : Lib.compareBytes (l.drop i) (m.drop i) = cmpI (l.length : Int) (m.length : Int) := by
  rw [cmpI_nat]
  by_cases hl : l.length ≤ i
  · rw [List.drop_of_length_le hl]
    by_cases hm : m.length ≤ i
    · rw [List.drop_of_length_le hm, if_neg (by omega), if_neg (by omega)]; rfl
    · rw [List.drop_eq_getElem_cons (by omega : i < m.length), if_pos (by omega)]; rfl
  · have hm : m.length ≤ i := by omega
    rw [List.drop_of_length_le hm, List.drop_eq_getElem_cons (by omega : i < l.length), if_neg (by omega), if_pos (by omega)]; rfl
theorem cmpBy_at (a b : UInt8) (l m : List UInt8) : Lib.compareBytes (a :: l) (b :: m) = if (a.toNat : Int) = (b.toNat : Int) then Lib.compareBytes l m else cmpI (a.toNat : Int) (b.toNat : Int) := by
  rw [Lib.compareBytes]
  unfold cmpI Lib.compareInt
  have e1 : a < b ↔ a.toNat < b.toNat := UInt8.lt_iff_toNat_lt
  have e2 : b < a ↔ b.toNat < a.toNat := UInt8.lt_iff_toNat_lt
  rcases Nat.lt_trichotomy a.toNat b.toNat with h | h | h
  · rw [if_pos (e1.2 h), if_neg (by omega), if_pos (by omega)]
  · rw [if_neg (by rw [e1]; omega), if_neg (by rw [e2]; omega), if_pos (by omega)]
  · rw [if_neg (by rw [e1]; omega), if_pos (e2.2 h), if_neg (by omega), if_neg (by omega), if_pos (by omega)]

set_option maxHeartbeats 1000000 in
theorem rtexts_any (a b : ByteArray) (w : World) (h1 : a.size ≤ reach) : Calls Tryd.prog 44 #[.string a, .string b] w fun e w' => e = .returned (.int .i64 (cmpB a b)) ∧ Below w.heap.size w w' := by
  unfold reach at h1
  go_enter Tryd.func44, Tryd.ntmps44
  go_wp2_with fail
  go_loopw [5] (fun v5 wr => ∃ i : Nat, i ≤ a.size ∧ i ≤ b.size ∧ v5 = .int .i64 i ∧ cmpB a b = Lib.compareBytes (a.data.toList.drop i) (b.data.toList.drop i) ∧ Below w.heap.size w wr) (fun v5 _ => a.size - (intOf v5).toNat)
  case atStart => exact ⟨0, Nat.zero_le _, Nat.zero_le _, rfl, rfl, Below.refl _ _⟩
  case round =>
    obtain ⟨i, hi1, hi2, rfl, hq, I⟩ := hrel
    have HQ := Lib.hid hq
    have J := Lib.hid I
    clear hq I
    by_cases hlt : i < a.size ∧ i < b.size
    · obtain ⟨hl1, hl2⟩ := hlt
      have HA := Lib.hid (HQ.out.trans (by rw [bytes_drop a i hl1, bytes_drop b i hl2, cmpBy_at]))
      cases hc : ((a[i].toNat : Int) != (b[i].toNat : Int))
      · go_upto_region 4 with fail
        go_quiet (fail)
        have HC : Hid (cmpB a b = Lib.compareBytes (a.data.toList.drop (i + 1)) (b.data.toList.drop (i + 1))) := by
          have : (a[i].toNat : Int) = (b[i].toNat : Int) := by simpa using hc
          rw [Hid, HA.out, if_pos this]
        go_wp2_with fail
        go_roundw
        case rel => exact ⟨i + 1, by omega, by omega, by go_num, HC.out, J.out.drewN _⟩
        case measure => simp [intOf]; omega
      · have HC : Hid (cmpB a b = cmpI (a[i].toNat : Int) (b[i].toNat : Int)) := by
          have : ¬ (a[i].toNat : Int) = (b[i].toNat : Int) := by simpa using hc
          rw [Hid, HA.out, if_neg this]
        have b1 : a[i].toNat < 256 := a[i].toNat_lt
        have b2 : b[i].toNat < 256 := b[i].toNat_lt
        go_upto_region 4 with fail
        go_quiet (fail)
        have J2 := Lib.hid (J.out.drewN nq)
        generalize wr.drewN nq = w2 at *
        have W1 : IntKind.i64.wrap (a[i].toNat : Int) = (a[i].toNat : Int) := wrap_i64 (by omega) (by omega)
        have W2 : IntKind.i64.wrap (b[i].toNat : Int) = (b[i].toNat : Int) := wrap_i64 (by omega) (by omega)
        go_upto_region 5 with fail
        go_quiet ((go_at_call 43; exact Calls.quiet_of_same (rints_any _ _ _)))
        go_wp2_with fail
        go_ret
        exact ⟨by rw [HC.out]; rfl, J2.out.drewN _⟩
    · have HE := Lib.hid (HQ.out.trans (cmpBy_end (by simp; omega) (by simp; omega) (by simp; omega)))
      by_cases hl1 : i < a.size
      all_goals
        first | have hx9 : b.size ≤ i := by omega | have hx9 : a.size ≤ i := by omega
        go_wp2_with fail
        refine (rints_any _ _ _).mono ?_
        rintro e w' ⟨rfl, rfl⟩
        go_wp2_with fail
        go_ret
        exact ⟨by rw [HE.out]; simp, J.out⟩

end Go.Proofs.YtdmabhbhlnpkgaaDoor
