/- Names: value.isName, and the reference's Name and wide. (Printed by gen_name.py.) -/
import Derived.Test.YtgcklgkhdokchaaDoorValEach
namespace Go.Proofs.YtgcklgkhdokchaaDoor
open Go.RowKit

def okB (b : UInt8) : Bool := decide (33 ≤ b.toNat) && decide (b.toNat ≤ 126) && !(b.toNat == 46)
def okW (b : UInt8) : Bool := decide (32 ≤ b.toNat) && decide (b.toNat ≤ 126)
/-- a name -/
def nameB (s : ByteArray) : Bool := decide (1 ≤ s.size) && decide (s.size ≤ 32) && !(s.data.toList.head?.map UInt8.toNat == some 36) && s.data.toList.all okB
/-- a name of a well-formed value -/
def wideB (s : ByteArray) : Bool := decide (1 ≤ s.size) && decide (s.size ≤ 128) && s.data.toList.all okW
theorem bytes_at (s : ByteArray) (i : Nat) (h : i < s.size) : s.data.toList[i]? = some s[i] := by
  rw [List.getElem?_eq_getElem (by simpa using h)]
  rfl
theorem all_next {p : UInt8 → Bool} {s : ByteArray} {i : Nat} (h : i < s.size) (ha : (s.data.toList.take i).all p = true) (hp : p s[i] = true) : (s.data.toList.take (i + 1)).all p = true := by
  rw [take_snoc' (bytes_at s i h), List.all_append, ha]
  simp [hp]
theorem all_not {p : UInt8 → Bool} {s : ByteArray} {i : Nat} (h : i < s.size) (hp : p s[i] = false) : s.data.toList.all p = false := by
  rw [List.all_eq_false]
  exact ⟨s[i], List.mem_of_getElem? (bytes_at s i h), by simp [hp]⟩
theorem all_end {p : UInt8 → Bool} {s : ByteArray} {i : Nat} (h : s.size ≤ i) (ha : (s.data.toList.take i).all p = true) : s.data.toList.all p = true := by
  rwa [List.take_of_length_le (by simpa using h)] at ha
theorem head_of (s : ByteArray) (h : 0 < s.size) : s.data.toList.head?.map UInt8.toNat = some s[0].toNat := by
  rw [List.head?_eq_getElem?, bytes_at s 0 h]
  rfl
theorem all_zero {p : UInt8 → Bool} {l : List UInt8} : (l.take 0).all p = true := by simp

set_option maxHeartbeats 1000000 in
theorem isName_any (s : ByteArray) (w : World) : Calls Tryd.prog 98 #[.string s] w fun e w' => e = .returned (.bool (nameB s)) ∧ w' = w := by
  by_cases h1 : s.size < 1
  · have HV : Hid (nameB s = false) := by unfold Hid nameB; rw [decide_eq_false (by omega)]; rfl
    go_enter Tryd.func98, Tryd.ntmps98
    go_wp2_with fail
    go_ret
    exact ⟨by rw [HV.out]; rfl, rfl⟩
  by_cases h2 : 32 < s.size
  · have HV : Hid (nameB s = false) := by unfold Hid nameB; rw [decide_eq_true (by omega), decide_eq_false (by omega)]; rfl
    go_enter Tryd.func98, Tryd.ntmps98
    go_wp2_with fail
    go_ret
    exact ⟨by rw [HV.out]; rfl, rfl⟩
  cases h3 : ((s[0].toNat : Int) == 36)
  rotate_left
  · have HV : Hid (nameB s = false) := by
      have : s[0].toNat = 36 := by simp at h3; omega
      unfold Hid nameB
      rw [decide_eq_true (by omega), decide_eq_true (by omega), head_of s (by omega), this]
      rfl
    go_enter Tryd.func98, Tryd.ntmps98
    go_wp2_with fail
    go_ret
    exact ⟨by rw [HV.out]; rfl, rfl⟩
  have HA : Hid (nameB s = s.data.toList.all okB) := by
    have : ¬ s[0].toNat = 36 := by simp at h3; omega
    unfold Hid nameB
    rw [decide_eq_true (by omega), decide_eq_true (by omega), head_of s (by omega)]
    simp [this]
  go_enter Tryd.func98, Tryd.ntmps98
  go_wp2_with fail
  go_loopw [19] (fun v wr => ∃ i : Nat, i ≤ s.size ∧ v = .int .i64 i ∧ (s.data.toList.take i).all okB = true ∧ wr = w) (fun v _ => s.size - (intOf v).toNat)
  case atStart => exact ⟨0, Nat.zero_le _, rfl, all_zero, rfl⟩
  case round =>
    obtain ⟨i, hi, rfl, ha, rfl⟩ := hrel
    have HL := Lib.hid ha
    clear ha
    by_cases hlt : i < s.size
    · have hx := s[i].toNat_lt
      by_cases hb : (s[i].toNat : Int) < 33
      · have HV : Hid (nameB s = false) := by rw [Hid, HA.out]; exact all_not hlt (by unfold okB; rw [decide_eq_false (by omega)]; rfl)
        go_wp2_with fail
        go_ret
        exact ⟨by rw [HV.out]; rfl, rfl⟩
      by_cases hc : 126 < (s[i].toNat : Int)
      · have HV : Hid (nameB s = false) := by rw [Hid, HA.out]; exact all_not hlt (by unfold okB; rw [decide_eq_true (by omega), decide_eq_false (by omega)]; rfl)
        go_wp2_with fail
        go_ret
        exact ⟨by rw [HV.out]; rfl, rfl⟩
      cases hd : ((s[i].toNat : Int) == 46)
      rotate_left
      · have HV : Hid (nameB s = false) := by
          have : s[i].toNat = 46 := by simp at hd; omega
          rw [Hid, HA.out]
          exact all_not hlt (by unfold okB; rw [this]; rfl)
        go_wp2_with fail
        go_ret
        exact ⟨by rw [HV.out]; rfl, rfl⟩
      have HN : Hid ((s.data.toList.take (i + 1)).all okB = true) := by
        have : ¬ s[i].toNat = 46 := by simp at hd; omega
        exact all_next hlt HL.out (by unfold okB; rw [decide_eq_true (by omega), decide_eq_true (by omega)]; simp [this])
      go_wp2_with fail
      go_roundw
      case rel => exact ⟨i + 1, by omega, by go_num, HN.out, trivial⟩
      case measure => simp [intOf]; omega
    · have HV : Hid (nameB s = true) := by rw [Hid, HA.out]; exact all_end (by omega) HL.out
      go_wp2_with fail
      go_ret
      exact ⟨by rw [HV.out]; rfl, rfl⟩

set_option maxHeartbeats 1000000 in
theorem rname_any (s : ByteArray) (w : World) : Calls Tryd.prog 30 #[.string s] w fun e w' => e = .returned (.bool (nameB s)) ∧ w' = w := by
  by_cases h1 : s.size < 1
  · have HV : Hid (nameB s = false) := by unfold Hid nameB; rw [decide_eq_false (by omega)]; rfl
    go_enter Tryd.func30, Tryd.ntmps30
    go_wp2_with fail
    go_ret
    exact ⟨by rw [HV.out]; rfl, rfl⟩
  by_cases h2 : 32 < s.size
  · have HV : Hid (nameB s = false) := by unfold Hid nameB; rw [decide_eq_true (by omega), decide_eq_false (by omega)]; rfl
    go_enter Tryd.func30, Tryd.ntmps30
    go_wp2_with fail
    go_ret
    exact ⟨by rw [HV.out]; rfl, rfl⟩
  cases h3 : ((s[0].toNat : Int) == 36)
  rotate_left
  · have HV : Hid (nameB s = false) := by
      have : s[0].toNat = 36 := by simp at h3; omega
      unfold Hid nameB
      rw [decide_eq_true (by omega), decide_eq_true (by omega), head_of s (by omega), this]
      rfl
    go_enter Tryd.func30, Tryd.ntmps30
    go_wp2_with fail
    go_ret
    exact ⟨by rw [HV.out]; rfl, rfl⟩
  have HA : Hid (nameB s = s.data.toList.all okB) := by
    have : ¬ s[0].toNat = 36 := by simp at h3; omega
    unfold Hid nameB
    rw [decide_eq_true (by omega), decide_eq_true (by omega), head_of s (by omega)]
    simp [this]
  go_enter Tryd.func30, Tryd.ntmps30
  go_wp2_with fail
  go_loopw [3] (fun v wr => ∃ i : Nat, i ≤ s.size ∧ v = .int .i64 i ∧ (s.data.toList.take i).all okB = true ∧ wr = w) (fun v _ => s.size - (intOf v).toNat)
  case atStart => exact ⟨0, Nat.zero_le _, rfl, all_zero, rfl⟩
  case round =>
    obtain ⟨i, hi, rfl, ha, rfl⟩ := hrel
    have HL := Lib.hid ha
    clear ha
    by_cases hlt : i < s.size
    · have hx := s[i].toNat_lt
      by_cases hb : (s[i].toNat : Int) < 33
      · have HV : Hid (nameB s = false) := by rw [Hid, HA.out]; exact all_not hlt (by unfold okB; rw [decide_eq_false (by omega)]; rfl)
        go_wp2_with fail
        go_ret
        exact ⟨by rw [HV.out]; rfl, rfl⟩
      by_cases hc : 126 < (s[i].toNat : Int)
      · have HV : Hid (nameB s = false) := by rw [Hid, HA.out]; exact all_not hlt (by unfold okB; rw [decide_eq_true (by omega), decide_eq_false (by omega)]; rfl)
        go_wp2_with fail
        go_ret
        exact ⟨by rw [HV.out]; rfl, rfl⟩
      cases hd : ((s[i].toNat : Int) == 46)
      rotate_left
      · have HV : Hid (nameB s = false) := by
          have : s[i].toNat = 46 := by simp at hd; omega
          rw [Hid, HA.out]
          exact all_not hlt (by unfold okB; rw [this]; rfl)
        go_wp2_with fail
        go_ret
        exact ⟨by rw [HV.out]; rfl, rfl⟩
      have HN : Hid ((s.data.toList.take (i + 1)).all okB = true) := by
        have : ¬ s[i].toNat = 46 := by simp at hd; omega
        exact all_next hlt HL.out (by unfold okB; rw [decide_eq_true (by omega), decide_eq_true (by omega)]; simp [this])
      go_wp2_with fail
      go_roundw
      case rel => exact ⟨i + 1, by omega, by go_num, HN.out, trivial⟩
      case measure => simp [intOf]; omega
    · have HV : Hid (nameB s = true) := by rw [Hid, HA.out]; exact all_end (by omega) HL.out
      go_wp2_with fail
      go_ret
      exact ⟨by rw [HV.out]; rfl, rfl⟩

end Go.Proofs.YtgcklgkhdokchaaDoor
