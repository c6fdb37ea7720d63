/- Paths: the contracts of path.notName, slices.ContainsFunc and path.Valid. -/
import Derived.Test.YtgcklgkhdokchaaDoorChPure
namespace Go.Proofs.YtgcklgkhdokchaaDoor
open Go.RowKit

set_option maxHeartbeats 1000000 in
theorem notName_any (s : ByteArray) (w : World) : Calls Tryd.prog 92 #[.string s] w fun e w' => e = .returned (.bool (!nameB s)) ∧ w' = w := by
  by_cases h1 : s.size < 1
  · have HV : Hid (nameB s = false) := by unfold Hid nameB; rw [decide_eq_false (by omega)]; rfl
    go_enter Tryd.func92, Tryd.ntmps92
    go_wp2_with fail
    go_ret
    exact ⟨by rw [HV.out]; rfl, rfl⟩
  by_cases h2 : 32 < s.size
  · have HV : Hid (nameB s = false) := by unfold Hid nameB; rw [decide_eq_true (by omega), decide_eq_false (by omega)]; rfl
    go_enter Tryd.func92, Tryd.ntmps92
    go_wp2_with fail
    go_ret
    exact ⟨by rw [HV.out]; rfl, rfl⟩
  cases h3 : ((s[0].toNat : Int) == 36)
  rotate_left
  · have HV : Hid (nameB s = false) := by
      have : s[0].toNat = 36 := by simp at h3; omega
      unfold Hid nameB
      rw [decide_eq_true (by omega), decide_eq_true (by omega), head_of s (by omega), this]
      rfl
    go_enter Tryd.func92, Tryd.ntmps92
    go_wp2_with fail
    go_ret
    exact ⟨by rw [HV.out]; rfl, rfl⟩
  have HA : Hid (nameB s = s.data.toList.all okB) := by
    have : ¬ s[0].toNat = 36 := by simp at h3; omega
    unfold Hid nameB
    rw [decide_eq_true (by omega), decide_eq_true (by omega), head_of s (by omega)]
    simp [this]
  go_enter Tryd.func92, Tryd.ntmps92
  go_wp2_with fail
  go_loopw [19] (fun v wr => ∃ i : Nat, i ≤ s.size ∧ v = .int .i64 i ∧ (s.data.toList.take i).all okB = true ∧ wr = w) (fun v _ => s.size - (intOf v).toNat)
  case atStart => exact ⟨0, Nat.zero_le _, rfl, all_zero, rfl⟩
  case round =>
    obtain ⟨i, hi, rfl, ha, rfl⟩ := hrel
    have HL := Lib.hid ha
    clear ha
    by_cases hlt : i < s.size
    · have hx := s[i].toNat_lt
      by_cases hb : (s[i].toNat : Int) < 33
      · have HV : Hid (nameB s = false) := by rw [Hid, HA.out]; exact all_not hlt (by unfold okB; rw [decide_eq_false (by omega)]; rfl)
        go_wp2_with fail
        go_ret
        exact ⟨by rw [HV.out]; rfl, rfl⟩
      by_cases hc : 126 < (s[i].toNat : Int)
      · have HV : Hid (nameB s = false) := by rw [Hid, HA.out]; exact all_not hlt (by unfold okB; rw [decide_eq_true (by omega), decide_eq_false (by omega)]; rfl)
        go_wp2_with fail
        go_ret
        exact ⟨by rw [HV.out]; rfl, rfl⟩
      cases hd : ((s[i].toNat : Int) == 46)
      rotate_left
      · have HV : Hid (nameB s = false) := by
          have : s[i].toNat = 46 := by simp at hd; omega
          rw [Hid, HA.out]
          exact all_not hlt (by unfold okB; rw [this]; rfl)
        go_wp2_with fail
        go_ret
        exact ⟨by rw [HV.out]; rfl, rfl⟩
      have HN : Hid ((s.data.toList.take (i + 1)).all okB = true) := by
        have : ¬ s[i].toNat = 46 := by simp at hd; omega
        exact all_next hlt HL.out (by unfold okB; rw [decide_eq_true (by omega), decide_eq_true (by omega)]; simp [this])
      go_wp2_with fail
      go_roundw
      case rel => exact ⟨i + 1, by omega, by go_num, HN.out, trivial⟩
      case measure => simp [intOf]; omega
    · have HV : Hid (nameB s = true) := by rw [Hid, HA.out]; exact all_end (by omega) HL.out
      go_wp2_with fail
      go_ret
      exact ⟨by rw [HV.out]; rfl, rfl⟩

theorem idxFrom_at {α : Type} {p : α → Bool} {l : List α} {i : Nat} {x : α} (h : l[i]? = some x) : idxFrom p (l.drop i) i = if p x then (i : Int) else idxFrom p (l.drop (i + 1)) (i + 1) := by rw [drop_of h, idxFrom]
theorem idxFrom_end {α : Type} {p : α → Bool} {l : List α} {i : Nat} (h : l.length ≤ i) : idxFrom p (l.drop i) i = -1 := by rw [List.drop_of_length_le h, idxFrom]

set_option maxHeartbeats 1000000 in
theorem indexN_any (l : List ByteArray) (A : Option Addr) (n c : Nat) (w : World) (h : ST w A n c l) :
    Calls Tryd.prog 99 #[.slice A n c, .func (.func 92) #[] #[]] w fun e w' => e = .returned (.int .i64 (idxI (fun s => !nameB s) l)) ∧ w' = w := by
  have hz : n ≤ 140737488355328 := by have := h.sz; unfold reach at this; omega
  have H := Lib.hid h
  clear h
  go_enter Tryd.func99, Tryd.ntmps99
  go_wp2_with fail
  go_loopw [8] (fun v wr => ∃ i : Nat, i ≤ n ∧ v = .int .i64 i ∧ idxI (fun s => !nameB s) l = idxFrom (fun s => !nameB s) (l.drop i) i ∧ wr = w) (fun v _ => n - (intOf v).toNat)
  case atStart => exact ⟨0, Nat.zero_le _, rfl, rfl, rfl⟩
  case round =>
    obtain ⟨i, hi, rfl, ha, rfl⟩ := hrel
    have HA := Lib.hid ha
    clear ha
    by_cases hlt : i < n
    · obtain ⟨b, off, x, hA, hb, hx, e0⟩ := H.out.sr.at1 hlt
      subst hA
      have HX := Lib.hid (idxFrom_at (p := fun s => !nameB s) hx)
      clear hx
      go_wp2_with fail
      refine (notName_any x _).mono ?_
      rintro e w1 ⟨rfl, rfl⟩
      cases hq : nameB x
      · have HF : Hid (idxI (fun s => !nameB s) l = (i : Int)) := by rw [Hid, HA.out, HX.out, hq]; rfl
        go_wp2_with fail
        go_ret
        exact ⟨by rw [HF.out]; rfl, rfl⟩
      · have HF : Hid (idxI (fun s => !nameB s) l = idxFrom (fun s => !nameB s) (l.drop (i + 1)) (i + 1)) := by rw [Hid, HA.out, HX.out, hq]; rfl
        go_wp2_with fail
        go_roundw
        case rel => exact ⟨i + 1, by omega, by go_num, HF.out, trivial⟩
        case measure => simp [intOf]; omega
    · have HF : Hid (idxI (fun s => !nameB s) l = -1) := by rw [Hid, HA.out]; exact idxFrom_end (by have := H.out.sr.ln; omega)
      go_wp2_with fail
      go_ret
      exact ⟨by rw [HF.out]; rfl, rfl⟩
theorem idx_all (p : ByteArray → Bool) (l : List ByteArray) : decide (0 ≤ idxI (fun s => !p s) l) = !l.all p := by
  rcases idxI_range (fun s => !p s) l with ⟨h1, h2⟩ | ⟨i, c, h1, h2, h3, _⟩
  · rw [h1]
    have : l.all p = true := List.all_eq_true.2 fun x hx => by simpa using h2 x hx
    rw [this]
    rfl
  · rw [h1]
    have : l.all p = false := List.all_eq_false.2 ⟨c, List.mem_of_getElem? h2, by simpa using h3⟩
    rw [this, decide_eq_true (by omega)]
    rfl
theorem containsN_any (l : List ByteArray) (A : Option Addr) (n c : Nat) (w : World) (h : ST w A n c l) :
    Calls Tryd.prog 91 #[.slice A n c, .func (.func 92) #[] #[]] w fun e w' => e = .returned (.bool (!l.all nameB)) ∧ w' = w := by
  have H := Lib.hid h
  clear h
  have HV := Lib.hid (idx_all nameB l)
  go_enter Tryd.func91, Tryd.ntmps91
  go_wp2_with fail
  refine (indexN_any l _ _ _ _ H.out).mono ?_
  rintro e w1 ⟨rfl, rfl⟩
  go_wp2_with fail
  go_ret
  exact ⟨by rw [← HV.out]; rfl, rfl⟩
set_option maxHeartbeats 1000000 in
theorem path_any (l : List ByteArray) (A : Option Addr) (n c : Nat) (w : World) (h : ST w A n c l) :
    Calls Tryd.prog 78 #[.slice A n c] w fun e w' => e = .returned (.bool (pathB l)) ∧ w' = w := by
  have hz : n ≤ 140737488355328 := by have := h.sz; unfold reach at this; omega
  have H := Lib.hid h
  have hn := Lib.hid h.sr.ln
  clear h
  by_cases h1 : 1 ≤ n
  · by_cases h2 : n ≤ 16
    · have HV : Hid (pathB l = l.all nameB) := by unfold Hid pathB; rw [← hn.out, decide_eq_true h1, decide_eq_true h2]; rfl
      go_enter Tryd.func78, Tryd.ntmps78
      go_wp2_with fail
      refine (containsN_any l _ _ _ _ H.out).mono ?_
      rintro e w1 ⟨rfl, rfl⟩
      go_wp2_with fail
      go_ret
      exact ⟨by rw [HV.out]; simp, rfl⟩
    · have HV : Hid (pathB l = false) := by unfold Hid pathB; rw [← hn.out, decide_eq_true h1, decide_eq_false h2]; rfl
      go_enter Tryd.func78, Tryd.ntmps78
      go_wp2_with fail
      go_ret
      exact ⟨by rw [HV.out]; rfl, rfl⟩
  · have HV : Hid (pathB l = false) := by unfold Hid pathB; rw [← hn.out, decide_eq_false h1]; rfl
    go_enter Tryd.func78, Tryd.ntmps78
    go_wp2_with fail
    go_ret
    exact ⟨by rw [HV.out]; rfl, rfl⟩

end Go.Proofs.YtgcklgkhdokchaaDoor
