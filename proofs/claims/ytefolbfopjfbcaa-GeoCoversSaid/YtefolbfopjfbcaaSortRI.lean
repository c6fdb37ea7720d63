/- The library's swapRange and rotate at one element type. (Printed by gen_sort2.py I.) -/
import Derived.Test.YtefolbfopjfbcaaSortII
namespace Go.Proofs.Ytefolbfopjfbcaa
open Go.RowKit
set_option linter.unusedSectionVars false
variable [Inhabited Ctx]

theorem IsI.swap2 {g : Nat} {w w2 : World} {L : List (Int × Nat)} (h : IsI g w L w2) {p q : Nat} (hp : p < L.length) (hq : q < L.length) (x y : Int × Nat) : IsI g w ((L.set p y).set q x) ((w2.setCell ⟨g, p, none⟩ (.int .i64 y.1)).setCell ⟨g, q, none⟩ (.int .i64 x.1)).drew :=
  ⟨SRowI.drew ((h.row.put hp y).put (j := q) (by rw [List.length_set]; exact hq) x), But.step ((h.but.set (p := ⟨g, p, none⟩) rfl (.int .i64 y.1)).set (p := ⟨g, q, none⟩) rfl (.int .i64 x.1)) ((Below.refl _ _).drew)⟩
theorem swap2_list {α : Type} (A V1 U2 M U1 V2 D : List α) (x y : α) :
    ((A ++ (V1 ++ x :: U2) ++ M ++ (U1 ++ y :: V2) ++ D).set (A.length + V1.length) y).set (A.length + (V1.length + (U2.length + 1)) + M.length + U1.length) x = A ++ ((V1 ++ [y]) ++ U2) ++ M ++ ((U1 ++ [x]) ++ V2) ++ D := by
  have e1 : (A ++ (V1 ++ x :: U2) ++ M ++ (U1 ++ y :: V2) ++ D).set (A.length + V1.length) y = (A ++ V1 ++ y :: U2 ++ M ++ U1) ++ y :: (V2 ++ D) := by
    rw [show A ++ (V1 ++ x :: U2) ++ M ++ (U1 ++ y :: V2) ++ D = (A ++ V1) ++ x :: (U2 ++ (M ++ (U1 ++ y :: (V2 ++ D)))) by simp, List.set_append_right _ _ (by simp), show A.length + V1.length - (A ++ V1).length = 0 by simp]
    simp
  rw [e1, List.set_append_right _ _ (by simp; omega), show A.length + (V1.length + (U2.length + 1)) + M.length + U1.length - (A ++ V1 ++ y :: U2 ++ M ++ U1).length = 0 by simp; omega]
  simp
theorem swap2_x {α : Type} (A V1 U2 M U1 V2 D : List α) (x y : α) : (A ++ (V1 ++ x :: U2) ++ M ++ (U1 ++ y :: V2) ++ D)[A.length + V1.length]? = some x := by
  rw [show A ++ (V1 ++ x :: U2) ++ M ++ (U1 ++ y :: V2) ++ D = (A ++ V1) ++ x :: (U2 ++ (M ++ (U1 ++ y :: (V2 ++ D)))) by simp, List.getElem?_append_right (by simp)]
  simp
theorem swap2_y {α : Type} (A V1 U2 M U1 V2 D : List α) (x y : α) : (A ++ (V1 ++ x :: U2) ++ M ++ (U1 ++ y :: V2) ++ D)[A.length + (V1.length + (U2.length + 1)) + M.length + U1.length]? = some y := by
  rw [show A ++ (V1 ++ x :: U2) ++ M ++ (U1 ++ y :: V2) ++ D = (A ++ V1 ++ x :: U2 ++ M ++ U1) ++ y :: (V2 ++ D) by simp, List.getElem?_append_right (by simp; omega)]
  rw [show A.length + (V1.length + (U2.length + 1)) + M.length + U1.length - (A ++ V1 ++ x :: U2 ++ M ++ U1).length = 0 by simp; omega]
  rfl

def RowDoneI (g : Nat) (w : World) (L : List (Int × Nat)) (e : Ending) (w' : World) : Prop := e = .returned (.tuple #[]) ∧ IsI g w L w'

set_option maxRecDepth 100000 in
set_option maxHeartbeats 4000000 in
theorem swapRangeI_any (A U M V D : List (Int × Nat)) (g n c a b k : Nat) (aI bI kI : Int) (fv : Value) (w : World) (hr : SRowI w g (A ++ U ++ M ++ V ++ D)) (hn : n = (A ++ U ++ M ++ V ++ D).length)
    (ha : a = A.length) (hb : b = A.length + U.length + M.length) (hk : k = U.length) (hkv : k = V.length) (haI : aI = a) (hbI : bI = b) (hkI : kI = k) (hz : n * 8 ≤ reach) :
    Calls Try.prog 53 #[.slice (some ⟨g, 0, none⟩) n c, .int .i64 aI, .int .i64 bI, .int .i64 kI, fv] w (RowDoneI g w (A ++ V ++ M ++ U ++ D)) := by
  subst haI hbI hkI
  unfold reach at hz
  have hbn : b + k ≤ n := by rw [hn]; simp; omega
  have hab : a + k ≤ b := by omega
  have HA := Lib.hid ha
  have HBq := Lib.hid hb
  have HK := Lib.hid hk
  have HKV := Lib.hid hkv
  have HN := Lib.hid hn
  have I0 : Hid (IsI g w (A ++ U ++ M ++ V ++ D) w) := Lib.hid ⟨hr, But.refl⟩
  clear hr hn ha hb hk hkv
  go_enter Try.func53, Try.ntmps53
  go_wp2_with fail
  go_loopw [10] (fun v10 wr => ∃ (i : Nat) (U1 U2 V1 V2 : List (Int × Nat)), v10 = .int .i64 i ∧ i ≤ k ∧ i = U1.length ∧ i = V1.length ∧ U = U1 ++ U2 ∧ V = V1 ++ V2 ∧ IsI g w (A ++ (V1 ++ U2) ++ M ++ (U1 ++ V2) ++ D) wr) (fun v10 _ => k - (intOf v10).toNat)
  case atStart => exact ⟨0, [], U, [], V, rfl, Nat.zero_le _, rfl, rfl, rfl, rfl, I0.out⟩
  case round =>
    obtain ⟨i, U1, U2, V1, V2, rfl, hik, hU1, hV1, hU, hV, I⟩ := hrel
    have HU1 := Lib.hid hU1
    have HV1 := Lib.hid hV1
    have HU := Lib.hid hU
    have HV := Lib.hid hV
    have J := Lib.hid I
    by_cases hlt : i < k
    · obtain ⟨x, U3, hx⟩ : ∃ x U3, U2 = x :: U3 := by
        cases U2 with
        | nil => have h1 := HK.out; rw [hU] at h1; simp at h1; omega
        | cons x U3 => exact ⟨x, U3, rfl⟩
      obtain ⟨y, V3, hy⟩ : ∃ y V3, V2 = y :: V3 := by
        cases V2 with
        | nil => have h1 := HKV.out; rw [hV] at h1; simp at h1; omega
        | cons y V3 => exact ⟨y, V3, rfl⟩
      subst hx hy
      have hp : a + i = A.length + V1.length := by rw [HA.out, ← hV1]
      have hq : b + i = A.length + (V1.length + (U3.length + 1)) + M.length + U1.length := by
        have h1 := HBq.out
        rw [hU] at h1
        simp at h1
        omega
      have HX : Hid ((A ++ (V1 ++ x :: U3) ++ M ++ (U1 ++ y :: V3) ++ D)[a + i]? = some x) := by rw [Hid, hp]; exact swap2_x A V1 U3 M U1 V3 D x y
      have HY : Hid ((A ++ (V1 ++ x :: U3) ++ M ++ (U1 ++ y :: V3) ++ D)[b + i]? = some y) := by rw [Hid, hq]; exact swap2_y A V1 U3 M U1 V3 D x y
      have HSw : Hid (((A ++ (V1 ++ x :: U3) ++ M ++ (U1 ++ y :: V3) ++ D).set (a + i) y).set (b + i) x = A ++ ((V1 ++ [y]) ++ U3) ++ M ++ ((U1 ++ [x]) ++ V3) ++ D) := by
        rw [Hid, hp, hq]
        exact swap2_list A V1 U3 M U1 V3 D x y
      have p0 : wr.cell? ⟨g, (a + i), none⟩ = some (.int .i64 x.1) := J.out.row.cell HX.out 0 _ rfl
      have r0 : wr.cell? ⟨g, (b + i), none⟩ = some (.int .i64 y.1) := J.out.row.cell HY.out 0 _ rfl
      have z := SRowI.frozen J.out.row
      clear hU1 hV1 hU hV I hp hq
      go_upto_region 3 with fail
      go_region
      all_goals
        clear p0 r0 z
        go_wp2_with fail
        refine ⟨⟨i + 1, U1 ++ [x], U3, V1 ++ [y], V3, by go_num, by omega, by rw [HU1.out]; simp, by rw [HV1.out]; simp, by rw [HU.out]; simp, by rw [HV.out]; simp, ?_⟩, by simp [intOf]; omega⟩
        have r1 := J.out.swap2 (List.getElem?_eq_some_iff.1 HX.out).1 (List.getElem?_eq_some_iff.1 HY.out).1 x y
        rw [HSw.out] at r1
        exact r1
    · have e1 : U2 = [] := List.eq_nil_of_length_eq_zero (by have h1 := HK.out; rw [hU] at h1; simp at h1; omega)
      have e2 : V2 = [] := List.eq_nil_of_length_eq_zero (by have h1 := HKV.out; rw [hV] at h1; simp at h1; omega)
      have HF : Hid (IsI g w (A ++ V ++ M ++ U ++ D) wr) := by
        rw [Hid, hU, hV, e1, e2]
        simp only [List.append_nil]
        rw [e1, e2] at I
        simp only [List.append_nil] at I
        exact I
      clear hU1 hV1 hU hV I e1 e2
      go_wp2_with fail
      go_end0
      exact ⟨rfl, HF.out⟩

theorem IsI.then {g : Nat} {w w1 w2 : World} {L L' : List (Int × Nat)} (h : IsI g w L w1) (h' : IsI g w1 L' w2) : IsI g w L' w2 := ⟨h'.row, h.but.trans h'.but⟩

set_option maxRecDepth 100000 in
set_option maxHeartbeats 4000000 in
theorem rotateI_any (A P Q D : List (Int × Nat)) (g n c a m b : Nat) (aI mI bI : Int) (fv : Value) (w : World) (hr : SRowI w g (A ++ P ++ Q ++ D)) (hn : n = (A ++ P ++ Q ++ D).length)
    (ha : a = A.length) (hm : m = A.length + P.length) (hb : b = A.length + P.length + Q.length) (hP : 1 ≤ P.length) (hQ : 1 ≤ Q.length) (haI : aI = a) (hmI : mI = m) (hbI : bI = b) (hz : n * 8 ≤ reach) :
    Calls Try.prog 52 #[.slice (some ⟨g, 0, none⟩) n c, .int .i64 aI, .int .i64 mI, .int .i64 bI, fv] w (RowDoneI g w (A ++ Q ++ P ++ D)) := by
  subst haI hmI hbI
  have HZ := Lib.hid hz
  unfold reach at hz
  have ham : a ≤ m := by omega
  have hmb : m ≤ b := by omega
  have hbn : b ≤ n := by rw [hn]; simp; omega
  have HN := Lib.hid hn
  have I0 : Hid (IsI g w (A ++ P ++ Q ++ D) w) := Lib.hid ⟨hr, But.refl⟩
  have HP : Hid (m - a = P.length) := by unfold Hid; omega
  have HQ : Hid (b - m = Q.length) := by unfold Hid; omega
  have HM : Hid (A.length + P.length = m) := hm.symm
  have hi1 : 1 ≤ m - a := by omega
  have hj1 : 1 ≤ b - m := by omega
  clear hr hn ha hm hb hP hQ
  go_enter Try.func52, Try.ntmps52
  go_wp2_with fail
  go_loopw [10, 11] (fun v10 v11 wr => ∃ (i j : Nat) (A' U V D' : List (Int × Nat)), v10 = .int .i64 i ∧ v11 = .int .i64 j ∧ i = U.length ∧ j = V.length ∧ 1 ≤ i ∧ 1 ≤ j ∧ A'.length + i = m ∧ n = (A' ++ U ++ V ++ D').length ∧ A' ++ V ++ U ++ D' = A ++ Q ++ P ++ D ∧ IsI g w (A' ++ U ++ V ++ D') wr) (fun v10 v11 _ => (intOf v10).toNat + (intOf v11).toNat)
  case atStart => exact ⟨m - a, b - m, A, P, Q, D, by go_num, by go_num, HP.out, HQ.out, hi1, hj1, by rw [HP.out]; exact HM.out, HN.out, rfl, I0.out⟩
  case round =>
    obtain ⟨i, j, A', U, V, D', rfl, rfl, hU, hV, hi, hj, hm', hn', ht, I⟩ := hrel
    have HU := Lib.hid hU
    have HV := Lib.hid hV
    have HM' := Lib.hid hm'
    have HN' := Lib.hid hn'
    have HTg := Lib.hid ht
    have J := Lib.hid I
    have him : i ≤ m := by omega
    have hjn : m + j ≤ n := by rw [hn']; simp; omega
    clear hU hV hn' ht I hm'
    cases hne : ((i : Int) != (j : Int))
    · have hij : i = j := by simp at hne; omega
      have HR : Hid (SRowI wr g (A' ++ U ++ [] ++ V ++ D')) := by rw [Hid, List.append_nil]; exact J.out.row
      have HN2 : Hid (n = (A' ++ U ++ [] ++ V ++ D').length) := by rw [Hid, List.append_nil]; exact HN'.out
      have HIJ := Lib.hid hij
      clear hij
      go_wp2_with fail
      refine (swapRangeI_any A' U [] V D' g n c A'.length m i _ _ _ _ _ HR.out HN2.out rfl (by have := HU.out; have := HM'.out; simp; omega) HU.out (by rw [HIJ.out]; exact HV.out) (by have := HM'.out; omega) (by omega) rfl HZ.out).mono ?_
      rintro e w1 ⟨rfl, h1⟩
      have H1 := Lib.hid (J.out.then h1)
      clear h1
      go_wp2_with fail
      go_end0
      refine ⟨rfl, ?_⟩
      have := H1.out
      rw [List.append_nil, HTg.out] at this
      exact this
    · have hij : i ≠ j := by simp at hne; omega
      by_cases hgt : j < i
      · obtain ⟨U1, U2, hUU, hU1⟩ : ∃ U1 U2, U = U1 ++ U2 ∧ U1.length = j := ⟨U.take j, U.drop j, (List.take_append_drop j U).symm, by rw [List.length_take]; have := HU.out; omega⟩
        have hU2 : U2.length = i - j := by have h1 := HU.out; rw [hUU] at h1; simp at h1; omega
        have HR : Hid (SRowI wr g (A' ++ U1 ++ U2 ++ V ++ D')) := by have := J.out.row; rw [hUU] at this; rw [Hid]; simpa using this
        have HN2 : Hid (n = (A' ++ U1 ++ U2 ++ V ++ D').length) := by have := HN'.out; rw [hUU] at this; rw [Hid, this]; simp
        have HUU := Lib.hid hUU
        have HU1 := Lib.hid hU1
        have HU2 := Lib.hid hU2
        clear hUU hU1 hU2 hij
        go_wp2_with fail
        refine (swapRangeI_any A' U1 U2 V D' g n c A'.length m j _ _ _ _ _ HR.out HN2.out rfl (by have := HU1.out; have := HU2.out; have := HM'.out; omega) HU1.out.symm HV.out (by have := HM'.out; omega) rfl rfl HZ.out).mono ?_
        rintro e w1 ⟨rfl, h1⟩
        have H1 := Lib.hid (J.out.then h1)
        clear h1
        go_wp2_with fail
        go_roundw
        case rel =>
          refine ⟨i - j, j, A' ++ V, U2, U1, D', by go_num, rfl, HU2.out.symm, HU1.out.symm, by omega, hj, by rw [List.length_append, ← HV.out]; have := HM'.out; omega, ?_, ?_, ?_⟩
          · have := HN2.out; simp at this; simp; omega
          · rw [← HTg.out, HUU.out]; simp
          · exact H1.out
        case measure => simp [intOf]; omega
      · obtain ⟨V1, V2, hVV, hV1⟩ : ∃ V1 V2, V = V1 ++ V2 ∧ V1.length = j - i := ⟨V.take (j - i), V.drop (j - i), (List.take_append_drop (j - i) V).symm, by rw [List.length_take]; have := HV.out; omega⟩
        have hV2 : V2.length = i := by have h1 := HV.out; rw [hVV] at h1; simp at h1; omega
        have HR : Hid (SRowI wr g (A' ++ U ++ V1 ++ V2 ++ D')) := by have := J.out.row; rw [hVV] at this; rw [Hid]; simpa using this
        have HN2 : Hid (n = (A' ++ U ++ V1 ++ V2 ++ D').length) := by have := HN'.out; rw [hVV] at this; rw [Hid, this]; simp
        have HVV := Lib.hid hVV
        have HV1 := Lib.hid hV1
        have HV2 := Lib.hid hV2
        have hlt : i < j := by omega
        clear hVV hV1 hV2 hij
        go_wp2_with fail
        refine (swapRangeI_any A' U V1 V2 D' g n c A'.length (m + j - i) i _ _ _ _ _ HR.out HN2.out rfl (by have := HU.out; have := HV1.out; have := HM'.out; omega) HU.out HV2.out.symm (by have := HM'.out; omega) (by omega) rfl HZ.out).mono ?_
        rintro e w1 ⟨rfl, h1⟩
        have H1 := Lib.hid (J.out.then h1)
        clear h1
        go_wp2_with fail
        go_roundw
        case rel =>
          refine ⟨i, j - i, A', V2, V1, U ++ D', rfl, by go_num, HV2.out.symm, HV1.out.symm, hi, by omega, HM'.out, ?_, ?_, ?_⟩
          · have := HN2.out; simp at this; simp; omega
          · rw [← HTg.out, HVV.out]; simp
          · have := H1.out; simpa using this
        case measure => simp [intOf]; omega

end Go.Proofs.Ytefolbfopjfbcaa
