/- Parts of the proof, joined: MgSortW, MgCommit, MgOrph. -/
import Derived.Test.YtlmmgjgkmbmgpaaGreatDoorEb20
import Derived.Test.YtlmmgjgkmbmgpaaGreatDoorEb2
import Derived.Test.YtlmmgjgkmbmgpaaGreatDoorEb10
import Derived.Test.YtlmmgjgkmbmgpaaGreatDoorEb21
import Derived.Test.YtlmmgjgkmbmgpaaGreatDoorEb19
import Derived.Test.YtlmmgjgkmbmgpaaGreatDoorEb15
import Derived.Test.YtlmmgjgkmbmgpaaGreatDoorEb18
import Derived.IntWalk
import Derived.Deep.RegionHeld3
/- The library's stable sort at writes, at most 20 of them. Printed by gen_mgsw.py. -/
namespace Go.Proofs.YtlmmgjgkmbmgpaaGreatDoor
open Go.RowKit
set_option linter.unusedSimpArgs false

theorem wrap_i64W {a : Int} (h1 : -9223372036854775808 ≤ a) (h2 : a ≤ 9223372036854775807) : IntKind.i64.wrap a = a := IntWalk.i64_in _ ⟨h1, h2⟩
def recTW (e : PW × Nat) : List Value := recW e.1
theorem recTW_length (e : PW × Nat) : (recTW e).length = 78 := rfl
def SRowW (w : World) (g : Nat) (L : List (PW × Nat)) : Prop := ∃ R : List Value, Blk w g 68 (flat recTW L ++ R).toArray
theorem setList_appW {α : Type} : ∀ (vs l R : List α) (k : Nat), k + vs.length ≤ l.length → setList (l ++ R) k vs = setList l k vs ++ R := by
  intro vs
  induction vs with
  | nil => intro l R k _; rfl
  | cons v vs ih =>
    intro l R k h
    simp only [List.length_cons] at h
    rw [setList, setList, List.set_append_left _ _ (by omega), ih _ _ _ (by rw [List.length_set]; omega)]
section
variable {w w' : World} {g : Nat} {L : List (PW × Nat)}
theorem SRowW.range (h : SRowW w g L) {j : Nat} {p : PW × Nat} (hj : L[j]? = some p) : w.rangeAt g (j * 78) (recW p.1) := fun i v hi => by
  obtain ⟨R, h⟩ := h
  have hf := flat_get recTW_length hj (show (recTW p)[i]? = some v from hi)
  rw [Blk.cell h (j * 78 + i), List.getElem?_toArray, List.getElem?_append_left (List.getElem?_eq_some_iff.1 hf).1]
  exact hf
theorem SRowW.step (h : SRowW w g L) (hb : Below w.heap.size w w') : SRowW w' g L := by obtain ⟨R, h⟩ := h; exact ⟨R, Blk.step h hb⟩
theorem SRowW.drew (h : SRowW w g L) : SRowW w.drew g L := by obtain ⟨R, h⟩ := h; exact ⟨R, Blk.drew h⟩
theorem SRowW.there (h : SRowW w g L) {j : Nat} (hj : j < L.length) : w.there g (j * 78) 78 := fun i hi => by
  obtain ⟨p, hp⟩ : ∃ p, L[j]? = some p := ⟨_, List.getElem?_eq_getElem hj⟩
  have hr := h.range hp
  refine ⟨?_, ?_⟩
  · rw [hr i _ (List.getElem?_eq_getElem (by rw [recW_length]; exact hi))]
    rfl
  · obtain ⟨R, h⟩ := h
    exact Blk.frozen h _
theorem SRowW.put (h : SRowW w g L) {j : Nat} (hj : j < L.length) (p : PW × Nat) : SRowW (w.setCells g (j * 78) (recW p.1)) g (L.set j p) := by
  obtain ⟨R, h⟩ := h
  have hl := flat_length recTW_length L
  have e : flat recTW (L.set j p) ++ R = setList (flat recTW L ++ R) (j * 78) (recTW p) := by
    rw [flat_set recTW_length L j p hj, setList_appW _ _ _ _ (by rw [recTW_length]; omega)]
  refine ⟨R, ?_⟩
  rw [e]
  exact Blk.setCells (recW p.1) (j * 78) h
end
theorem swap_listW {α : Type} (A S3 S2 E : List α) (x y : α) : ((A ++ ((S3 ++ [y]) ++ x :: S2) ++ E).set (A.length + (S3.length + 1)) y).set (A.length + (S3.length + 1) - 1) x = A ++ (S3 ++ x :: y :: S2) ++ E := by
  rw [show A.length + (S3.length + 1) - 1 = A.length + S3.length by omega]
  simp
def CmpOkW (g : Nat) (w : World) (U : List (PW × Nat)) : Prop := ∀ (x y : PW × Nat), x ∈ U → y ∈ U → ∀ wr, But g w wr →
    Calls Tryz.prog 53 #[.agg (recW x.1).toArray, .agg (recW y.1).toArray] wr fun e w' => e = .returned (.int .i64 (cmpV x.1.2.key y.1.2.key)) ∧ Below wr.heap.size wr w'
structure IsW2 (g : Nat) (w : World) (L : List (PW × Nat)) (wr : World) : Prop where
  row : SRowW wr g L
  but : But g w wr
theorem IsW2.step {g : Nat} {w wr w' : World} {L : List (PW × Nat)} (h : IsW2 g w L wr) (hb : Below wr.heap.size wr w') : IsW2 g w L w' := ⟨h.row.step hb, h.but.step hb⟩
theorem IsW2.then {g : Nat} {w w1 w2 : World} {L S : List (PW × Nat)} (h : IsW2 g w L w1) (h2 : IsW2 g w1 S w2) : IsW2 g w S w2 := ⟨h2.row, h.but.trans h2.but⟩
def IsDoneW (g : Nat) (w : World) (A Seg D : List (PW × Nat)) (e : Ending) (w' : World) : Prop :=
  e = .returned (.tuple #[]) ∧ ∃ S, Sorted (fun p q : PW => cmpV p.2.key q.2.key) Seg S ∧ IsW2 g w (A ++ S ++ D) w'

set_option maxRecDepth 100000 in
set_option maxHeartbeats 4000000 in
theorem isortW_any (H : Ordered (fun p q : PW => cmpV p.2.key q.2.key)) (A Seg D : List (PW × Nat)) (g n c a b : Nat) (w : World) (hr : SRowW w g (A ++ Seg ++ D)) (hn : n = (A ++ Seg ++ D).length) (ha : a = A.length) (hb : b = A.length + Seg.length)
    (hz : n ≤ 100000) (ht : Tagged Seg) (hc : CmpOkW g w Seg) :
    Calls Tryz.prog 131 #[.slice (some ⟨g, 0, none⟩) n c, .int .i64 a, .int .i64 b, .func (.func 53) #[] #[]] w (IsDoneW g w A Seg D) := by
  have HN := Lib.hid hn
  have HA := Lib.hid ha
  have HBq := Lib.hid hb
  have hab : a ≤ b := by omega
  have hbn : b ≤ n := by rw [hn]; simp; omega
  have HC := Lib.hid hc
  have HT := Lib.hid ht
  have HO := Lib.hid H
  have I0 : Hid (IsW2 g w (A ++ Seg ++ D) w) := Lib.hid ⟨hr, But.refl⟩
  clear hr hn ha hb ht hc H
  cases hs : Seg with
  | nil =>
    have hab' : b ≤ a := by have := HA.out; have := HBq.out; rw [hs] at this; simp at this; omega
    have HS := Lib.hid hs
    clear hs
    go_enter Tryz.func131, Tryz.ntmps131
    go_wp2_with fail
    go_loopw [8] (fun v8 wr => v8 = .int .i64 (a + 1) ∧ wr = w) (fun _ _ => 0)
    case atStart => exact ⟨by go_num, rfl⟩
    case round =>
      obtain ⟨rfl, rfl⟩ := hrel
      go_wp2_with fail
      go_end0
      exact ⟨rfl, [], Sorted.nil, by have := I0.out; rw [HS.out] at this; exact this⟩
  | cons x0 rest =>
    have HS := Lib.hid hs
    clear hs
    rw [← HS.out]
    go_enter Tryz.func131, Tryz.ntmps131
    go_wp2_with fail
    go_loopw [8] (fun v8 wr => ∃ (i : Nat) (P Q S : List (PW × Nat)), v8 = .int .i64 i ∧ i = a + P.length ∧ 1 ≤ P.length ∧ i ≤ b ∧ Seg = P ++ Q ∧ Sorted (fun p q : PW => cmpV p.2.key q.2.key) P S ∧ IsW2 g w (A ++ S ++ (Q ++ D)) wr) (fun v8 _ => b - (intOf v8).toNat)
    case atStart =>
      refine ⟨a + 1, [x0], rest, [x0], by go_num, rfl, Nat.le_refl _, ?_, HS.out, Sorted.one x0, ?_⟩
      · have := HBq.out; have := HA.out; rw [HS.out] at *; simp at *; omega
      · have := I0.out
        rw [HS.out] at this
        simpa using this
    case round =>
      obtain ⟨i, P, Q, S, rfl, hi, hP, hib, hPQ, hS, I⟩ := hrel
      have HI := Lib.hid hi
      have HPQ := Lib.hid hPQ
      have HSo := Lib.hid hS
      have J := Lib.hid I
      clear hi hPQ hS
      by_cases hlt : i < b
      · obtain ⟨x, Q', hQ⟩ : ∃ x Q', Q = x :: Q' := by
          cases Q with
          | nil =>
            have h1 := HBq.out
            have h2 := HI.out
            have h3 := HA.out
            rw [HPQ.out] at h1
            simp at h1
            omega
          | cons x Q' => exact ⟨x, Q', rfl⟩
        have HQ := Lib.hid hQ
        have hSl : S.length = P.length := HSo.out.perm.length_eq
        have HSl := Lib.hid hSl
        clear I hSl hQ
        go_wp2_with fail
        go_loopw [9] (fun v9 wr => ∃ (jj : Nat) (S1 S2 : List (PW × Nat)), v9 = .int .i64 jj ∧ jj = a + S1.length ∧ jj ≤ i ∧ S = S1 ++ S2 ∧ (∀ y ∈ S2, cmpV x.1.2.key y.1.2.key < 0) ∧ IsW2 g w (A ++ (S1 ++ x :: S2) ++ (Q' ++ D)) wr) (fun v9 _ => (intOf v9).toNat)
        case atStart =>
          refine ⟨i, S, [], rfl, by rw [HI.out, HSl.out], Nat.le_refl _, by simp, by simp, ?_⟩
          have := J.out
          rw [HQ.out] at this
          simpa using this
        case round =>
          clear J
          obtain ⟨jj, S1, S2, rfl, hj, hji, hSS, hall, I⟩ := hrel
          have HJ := Lib.hid hj
          have HSS := Lib.hid hSS
          have HAll := Lib.hid hall
          have J := Lib.hid I
          clear hj hSS hall
          by_cases hgt : a < jj
          · obtain ⟨S3, y, hS3⟩ : ∃ S3 y, S1 = S3 ++ [y] := by
              rcases List.eq_nil_or_concat S1 with h | ⟨S3, y, h⟩
              · have := HJ.out; rw [h] at this; simp at this; omega
              · exact ⟨S3, y, by rw [h, List.concat_eq_append]⟩
            have hA := HA.out
            have hj1 : jj = A.length + (S3.length + 1) := by rw [HJ.out, hS3]; simp; omega
            have hx : (A ++ (S1 ++ x :: S2) ++ (Q' ++ D))[jj]? = some x := by
              rw [hS3, hj1]; simp
            have hy : (A ++ (S1 ++ x :: S2) ++ (Q' ++ D))[jj - 1]? = some y := by
              rw [hS3, hj1]; simp
            have HXM : Hid (x ∈ Seg) := by rw [Hid, HPQ.out, HQ.out]; simp
            have HYM : Hid (y ∈ Seg) := by
              rw [Hid, HPQ.out]
              exact List.mem_append_left _ (HSo.out.perm.subset (by rw [HSS.out, hS3]; simp))
            have hjn : jj < n := by omega
            have i0 : (0 : Int) ≤ (jj : Int) := by omega
            have i1 : (jj : Int) < (n : Int) := by omega
            have i2 : (0 : Int) ≤ (jj : Int) - 1 := by omega
            have i3 : (jj : Int) - 1 < (n : Int) := by omega
            have i4 : (1 : Int) ≤ (jj : Int) := by omega
            have W1 : IntKind.i64.wrap ((jj : Int) - 1) = (jj : Int) - 1 := wrap_i64W (by omega) (by omega)
            have W2 : ((jj : Int) - 1).toNat = jj - 1 := by omega
            have HX := Lib.hid hx
            have HY := Lib.hid hy
            have HS3 := Lib.hid hS3
            have HJ1 := Lib.hid hj1
            clear hx hy I hS3 hj1 hA
            go_upto_region 4 with fail
            have B : Hid (Below wr.heap.size wr wr.drew) := Lib.hid ((Below.refl wr.heap.size wr).drew)
            have KSS : Hid (∀ w' : World, Below wr.heap.size wr w' → (fun w' => w'.rangeAt g (jj * 78) (recW x.1) ∧ w'.rangeAt g ((jj - 1) * 78) (recW y.1)) w') := Lib.hid fun w' hb => ⟨SRowW.range (J.out.row.step hb) HX.out, SRowW.range (J.out.row.step hb) HY.out⟩
            refine wp_region_noPanic ?_
            refine wp_region_held_drew (S := (fun w' => w'.rangeAt g (jj * 78) (recW x.1) ∧ w'.rangeAt g ((jj - 1) * 78) (recW y.1))) (by kernel_rfl) ?_ (fun hHeld => ?_)
            · (try dsimp only); exact KSS.out _ B.out
            generalize wr.drew = v0 at *
            refine wpAnyH_take (i := 0) (v := ?_) (take_at rfl) (by kernel_rfl) (by kernel_rfl) (by kernel_rfl) (fun _ _ _ h => h) (Or.inl ⟨by rfl, ?_⟩) (by assumption) ?_
            rotate_left
            · intro w' hSw; (try dsimp only at hSw); go_simp; (try with_reducible rfl)
            (try simp only [Act.put, List.setIfInBounds_toArray, List.set_cons_zero, List.set_cons_succ])
            refine wpAnyH_take (i := 1) (v := ?_) (take_at rfl) (by kernel_rfl) (by kernel_rfl) (by kernel_rfl) (fun _ _ _ h => h) (Or.inl ⟨by rfl, ?_⟩) (by assumption) ?_
            rotate_left
            · intro w' hSw; (try dsimp only at hSw); go_simp; (try with_reducible rfl)
            (try simp only [Act.put, List.setIfInBounds_toArray, List.set_cons_zero, List.set_cons_succ])
            refine wpAnyH_take (i := 2) (v := ?_) (take_at rfl) (by kernel_rfl) (by kernel_rfl) (by kernel_rfl) (fun _ _ _ h => h) (Or.inl ⟨by rfl, ?_⟩) (by assumption) ?_
            rotate_left
            · intro w' hSw; (try dsimp only at hSw); go_simp; (try with_reducible rfl)
            (try simp only [Act.put, List.setIfInBounds_toArray, List.set_cons_zero, List.set_cons_succ])
            refine wpAnyH_take (i := 3) (v := ?_) (take_at rfl) (by kernel_rfl) (by kernel_rfl) (by kernel_rfl) (fun _ _ _ h => h) (Or.inl ⟨by rfl, ?_⟩) (by assumption) ?_
            rotate_left
            · intro w' hSw; (try dsimp only at hSw); go_simp; (try with_reducible rfl)
            (try simp only [Act.put, List.setIfInBounds_toArray, List.set_cons_zero, List.set_cons_succ])
            refine wpAnyH_take (i := 4) (v := ?_) (take_at rfl) (by kernel_rfl) (by kernel_rfl) (by kernel_rfl) (fun _ _ _ h => h) (Or.inl ⟨by rfl, ?_⟩) (by assumption) ?_
            rotate_left
            · intro w' hSw; (try dsimp only at hSw); go_simp; (try with_reducible rfl)
            (try simp only [Act.put, List.setIfInBounds_toArray, List.set_cons_zero, List.set_cons_succ])
            refine wpAnyH_take (i := 5) (v := ?_) (take_at rfl) (by kernel_rfl) (by kernel_rfl) (by kernel_rfl) (fun _ _ _ h => h) (Or.inl ⟨by rfl, ?_⟩) (by assumption) ?_
            rotate_left
            · intro w' hSw; (try dsimp only at hSw); go_simp; (try with_reducible rfl)
            (try simp only [Act.put, List.setIfInBounds_toArray, List.set_cons_zero, List.set_cons_succ])
            refine wpAnyH_take (i := 6) (v := ?_) (take_at rfl) (by kernel_rfl) (by kernel_rfl) (by kernel_rfl) (fun _ _ _ h => h) (Or.inl ⟨by rfl, ?_⟩) (by assumption) ?_
            rotate_left
            · intro w' hSw; (try dsimp only at hSw); go_simp; (try with_reducible rfl)
            (try simp only [Act.put, List.setIfInBounds_toArray, List.set_cons_zero, List.set_cons_succ])
            refine wpAnyH_take (i := 7) (v := ?_) (take_at rfl) (by kernel_rfl) (by kernel_rfl) (by kernel_rfl) (fun _ _ _ h => h) (Or.inl ⟨by rfl, ?_⟩) (by assumption) ?_
            rotate_left
            · intro w' hSw; (try dsimp only at hSw); go_simp; (try with_reducible rfl)
            (try simp only [Act.put, List.setIfInBounds_toArray, List.set_cons_zero, List.set_cons_succ])
            refine wpAnyH_take (i := 8) (v := .agg (recW x.1).toArray) (take_at rfl) (by kernel_rfl) (by kernel_rfl) (by kernel_rfl) (fun _ _ _ h => h) (Or.inl ⟨by rfl, ?_⟩) (by assumption) ?_
            · intro w' hSw; exact exec_mid rfl rfl hSw.1 Tryz.underlying68 rfl (by rw [sizeW]; rfl)
            (try simp only [Act.put, List.setIfInBounds_toArray, List.set_cons_zero, List.set_cons_succ])
            refine wpAnyH_take (i := 9) (v := ?_) (take_at rfl) (by kernel_rfl) (by kernel_rfl) (by kernel_rfl) (fun _ _ _ h => h) (Or.inl ⟨by rfl, ?_⟩) (by assumption) ?_
            rotate_left
            · intro w' hSw; (try dsimp only at hSw); go_simp; (try with_reducible rfl)
            (try simp only [Act.put, List.setIfInBounds_toArray, List.set_cons_zero, List.set_cons_succ])
            refine wpAnyH_take (i := 10) (v := ?_) (take_at rfl) (by kernel_rfl) (by kernel_rfl) (by kernel_rfl) (fun _ _ _ h => h) (Or.inl ⟨by rfl, ?_⟩) (by assumption) ?_
            rotate_left
            · intro w' hSw; (try dsimp only at hSw); go_simp; (try with_reducible rfl)
            (try simp only [Act.put, List.setIfInBounds_toArray, List.set_cons_zero, List.set_cons_succ])
            refine wpAnyH_take (i := 11) (v := ?_) (take_at rfl) (by kernel_rfl) (by kernel_rfl) (by kernel_rfl) (fun _ _ _ h => h) (Or.inl ⟨by rfl, ?_⟩) (by assumption) ?_
            rotate_left
            · intro w' hSw; (try dsimp only at hSw); go_simp; (try with_reducible rfl)
            (try simp only [Act.put, List.setIfInBounds_toArray, List.set_cons_zero, List.set_cons_succ])
            refine wpAnyH_take (i := 12) (v := ?_) (take_at rfl) (by kernel_rfl) (by kernel_rfl) (by kernel_rfl) (fun _ _ _ h => h) (Or.inl ⟨by rfl, ?_⟩) (by assumption) ?_
            rotate_left
            · intro w' hSw; (try dsimp only at hSw); go_simp; (try with_reducible rfl)
            (try simp only [Act.put, List.setIfInBounds_toArray, List.set_cons_zero, List.set_cons_succ])
            refine wpAnyH_take (i := 13) (v := .agg (recW y.1).toArray) (take_at rfl) (by kernel_rfl) (by kernel_rfl) (by kernel_rfl) (fun _ _ _ h => h) (Or.inl ⟨by rfl, ?_⟩) (by assumption) ?_
            · intro w' hSw; exact exec_mid rfl rfl hSw.2 Tryz.underlying68 rfl (by rw [sizeW]; rfl)
            (try simp only [Act.put, List.setIfInBounds_toArray, List.set_cons_zero, List.set_cons_succ])
            refine wpAnyH_ready (rs := [14]) (by kernel_rfl) (by simp) ?_
            refine AllReadyH.cons (take_at rfl) (fun K hK => ?_) AllReadyH.nil
            go_simp
            refine (HC.out x y HXM.out HYM.out v0 (J.out.but.step B.out)).mono ?_
            rintro e3 y1 ⟨rfl, hb⟩
            replace B := Lib.hid (B.out.step' hb)
            clear hb
            (try go_wp2_with fail)
            refine hK.out _ _ ?_ (fun hHeld2 => ?_)
            · (try dsimp only); exact KSS.out _ B.out
            clear hK K hHeld
            have hHeld := hHeld2
            clear hHeld2
            (try simp only [Act.put, List.setIfInBounds_toArray, List.set_cons_zero, List.set_cons_succ])
            refine wpAnyH_take (i := 15) (v := ?_) (take_at rfl) (by kernel_rfl) (by kernel_rfl) (by kernel_rfl) (fun _ _ _ h => h) (Or.inl ⟨by rfl, ?_⟩) (by assumption) ?_
            rotate_left
            · intro w' hSw; (try dsimp only at hSw); go_simp; (try with_reducible rfl)
            (try simp only [Act.put, List.setIfInBounds_toArray, List.set_cons_zero, List.set_cons_succ])
            refine wpAnyH_take (i := 16) (v := ?_) (take_at rfl) (by kernel_rfl) (by kernel_rfl) (by kernel_rfl) (fun _ _ _ h => h) (Or.inl ⟨by rfl, ?_⟩) (by assumption) ?_
            rotate_left
            · intro w' hSw; (try dsimp only at hSw); go_simp; (try with_reducible rfl)
            (try simp only [Act.put, List.setIfInBounds_toArray, List.set_cons_zero, List.set_cons_succ])
            refine wpAnyH_done (by kernel_rfl) ?_ _
            refine NoPanic.normal ?_
            have J2 := Lib.hid (J.out.step B.out)
            clear W1 W2 i0 i1 i2 i3 i4 KSS B hHeld
            generalize y1 = w2 at *
            by_cases hc : cmpV x.1.2.key y.1.2.key < 0
            · have HCL := Lib.hid hc
              have i0 : (0 : Int) ≤ (jj : Int) := by omega
              have i1 : (jj : Int) < (n : Int) := by omega
              have i2 : (0 : Int) ≤ (jj : Int) - 1 := by omega
              have i3 : (jj : Int) - 1 < (n : Int) := by omega
              have i4 : (1 : Int) ≤ (jj : Int) := by omega
              have W1 : IntKind.i64.wrap ((jj : Int) - 1) = (jj : Int) - 1 := wrap_i64W (by omega) (by omega)
              have W2 : ((jj : Int) - 1).toNat = jj - 1 := by omega
              go_upto_region 6 with fail
              have DR : Hid (SRowW w2.drew g (A ++ (S1 ++ x :: S2) ++ (Q' ++ D))) := SRowW.drew J2.out.row
              have DB : Hid (But g w w2.drew) := J2.out.but.step ((Below.refl _ _).drew)
              have HL : Hid (jj < (A ++ (S1 ++ x :: S2) ++ (Q' ++ D)).length) := (List.getElem?_eq_some_iff.1 HX.out).1
              have RX : Hid (w2.drew.rangeAt g (jj * 78) (recW x.1)) := SRowW.range DR.out HX.out
              have RY : Hid (w2.drew.rangeAt g ((jj - 1) * 78) (recW y.1)) := SRowW.range DR.out HY.out
              refine wp_region_noPanic ?_
              refine wp_region_held_drew (S := (fun _ => True)) (by kernel_rfl) ?_ (fun hHeld => ?_)
              · (try dsimp only); skip
              generalize w2.drew = v0 at *
              refine wpAnyH_take (i := 0) (v := ?_) (take_at rfl) (by kernel_rfl) (by kernel_rfl) (by kernel_rfl) (fun _ _ _ h => h) (Or.inl ⟨by rfl, ?_⟩) (by assumption) ?_
              rotate_left
              · intro w' hSw; (try dsimp only at hSw); go_simp; (try with_reducible rfl)
              (try simp only [Act.put, List.setIfInBounds_toArray, List.set_cons_zero, List.set_cons_succ])
              refine wpAnyH_take (i := 1) (v := ?_) (take_at rfl) (by kernel_rfl) (by kernel_rfl) (by kernel_rfl) (fun _ _ _ h => h) (Or.inl ⟨by rfl, ?_⟩) (by assumption) ?_
              rotate_left
              · intro w' hSw; (try dsimp only at hSw); go_simp; (try with_reducible rfl)
              (try simp only [Act.put, List.setIfInBounds_toArray, List.set_cons_zero, List.set_cons_succ])
              refine wpAnyH_take (i := 2) (v := ?_) (take_at rfl) (by kernel_rfl) (by kernel_rfl) (by kernel_rfl) (fun _ _ _ h => h) (Or.inl ⟨by rfl, ?_⟩) (by assumption) ?_
              rotate_left
              · intro w' hSw; (try dsimp only at hSw); go_simp; (try with_reducible rfl)
              (try simp only [Act.put, List.setIfInBounds_toArray, List.set_cons_zero, List.set_cons_succ])
              refine wpAnyH_take (i := 3) (v := ?_) (take_at rfl) (by kernel_rfl) (by kernel_rfl) (by kernel_rfl) (fun _ _ _ h => h) (Or.inl ⟨by rfl, ?_⟩) (by assumption) ?_
              rotate_left
              · intro w' hSw; (try dsimp only at hSw); go_simp; (try with_reducible rfl)
              (try simp only [Act.put, List.setIfInBounds_toArray, List.set_cons_zero, List.set_cons_succ])
              refine wpAnyH_take (i := 4) (v := ?_) (take_at rfl) (by kernel_rfl) (by kernel_rfl) (by kernel_rfl) (fun _ _ _ h => h) (Or.inl ⟨by rfl, ?_⟩) (by assumption) ?_
              rotate_left
              · intro w' hSw; (try dsimp only at hSw); go_simp; (try with_reducible rfl)
              (try simp only [Act.put, List.setIfInBounds_toArray, List.set_cons_zero, List.set_cons_succ])
              refine wpAnyH_take (i := 5) (v := ?_) (take_at rfl) (by kernel_rfl) (by kernel_rfl) (by kernel_rfl) (fun _ _ _ h => h) (Or.inl ⟨by rfl, ?_⟩) (by assumption) ?_
              rotate_left
              · intro w' hSw; (try dsimp only at hSw); go_simp; (try with_reducible rfl)
              (try simp only [Act.put, List.setIfInBounds_toArray, List.set_cons_zero, List.set_cons_succ])
              refine wpAnyH_take (i := 6) (v := ?_) (take_at rfl) (by kernel_rfl) (by kernel_rfl) (by kernel_rfl) (fun _ _ _ h => h) (Or.inl ⟨by rfl, ?_⟩) (by assumption) ?_
              rotate_left
              · intro w' hSw; (try dsimp only at hSw); go_simp; (try with_reducible rfl)
              (try simp only [Act.put, List.setIfInBounds_toArray, List.set_cons_zero, List.set_cons_succ])
              refine wpAnyH_take (i := 7) (v := ?_) (take_at rfl) (by kernel_rfl) (by kernel_rfl) (by kernel_rfl) (fun _ _ _ h => h) (Or.inl ⟨by rfl, ?_⟩) (by assumption) ?_
              rotate_left
              · intro w' hSw; (try dsimp only at hSw); go_simp; (try with_reducible rfl)
              (try simp only [Act.put, List.setIfInBounds_toArray, List.set_cons_zero, List.set_cons_succ])
              refine wpAnyH_take (i := 8) (v := ?_) (take_at rfl) (by kernel_rfl) (by kernel_rfl) (by kernel_rfl) (fun _ _ _ h => h) (Or.inl ⟨by rfl, ?_⟩) (by assumption) ?_
              rotate_left
              · intro w' hSw; (try dsimp only at hSw); go_simp; (try with_reducible rfl)
              (try simp only [Act.put, List.setIfInBounds_toArray, List.set_cons_zero, List.set_cons_succ])
              refine wpAnyH_take (i := 10) (v := ?_) (take_at rfl) (by kernel_rfl) (by kernel_rfl) (by kernel_rfl) (fun _ _ _ h => h) (Or.inl ⟨by rfl, ?_⟩) (by assumption) ?_
              rotate_left
              · intro w' hSw; (try dsimp only at hSw); go_simp; (try with_reducible rfl)
              (try simp only [Act.put, List.setIfInBounds_toArray, List.set_cons_zero, List.set_cons_succ])
              refine wpAnyH_take (i := 11) (v := ?_) (take_at rfl) (by kernel_rfl) (by kernel_rfl) (by kernel_rfl) (fun _ _ _ h => h) (Or.inl ⟨by rfl, ?_⟩) (by assumption) ?_
              rotate_left
              · intro w' hSw; (try dsimp only at hSw); go_simp; (try with_reducible rfl)
              (try simp only [Act.put, List.setIfInBounds_toArray, List.set_cons_zero, List.set_cons_succ])
              refine wpAnyH_take (i := 12) (v := ?_) (take_at rfl) (by kernel_rfl) (by kernel_rfl) (by kernel_rfl) (fun _ _ _ h => h) (Or.inl ⟨by rfl, ?_⟩) (by assumption) ?_
              rotate_left
              · intro w' hSw; (try dsimp only at hSw); go_simp; (try with_reducible rfl)
              (try simp only [Act.put, List.setIfInBounds_toArray, List.set_cons_zero, List.set_cons_succ])
              refine wpAnyH_ready (rs := [9, 13]) (by kernel_rfl) (by simp) ?_
              refine AllReadyH.cons (take_at rfl) (fun K hK => ?_) (AllReadyH.cons (take_at rfl) (fun K hK => ?_) AllReadyH.nil)
              · refine wp_load_mid 68 _ rfl g ((jj - 1) * 78) rfl _ _ (RY.out) Tryz.underlying68 rfl (by rw [sizeW]; rfl) ?_
                refine hK.out _ _ ?_ (fun hHeld2 => ?_)
                · (try dsimp only); skip
                clear hK K hHeld
                have hHeld := hHeld2
                clear hHeld2
                (try simp only [Act.put, List.setIfInBounds_toArray, List.set_cons_zero, List.set_cons_succ])
                refine wpAnyH_ready (rs := [13]) (by kernel_rfl) (by simp) ?_
                refine AllReadyH.cons (take_at rfl) (fun K hK => ?_) AllReadyH.nil
                refine wp_load_mid 68 _ rfl g (jj * 78) rfl _ _ (RX.out) Tryz.underlying68 rfl (by rw [sizeW]; rfl) ?_
                refine hK.out _ _ ?_ (fun hHeld2 => ?_)
                · (try dsimp only); skip
                clear hK K hHeld
                have hHeld := hHeld2
                clear hHeld2
                (try simp only [Act.put, List.setIfInBounds_toArray, List.set_cons_zero, List.set_cons_succ])
                refine wpAnyH_take (i := 14) (v := ?_) (take_at rfl) (by kernel_rfl) (by kernel_rfl) (by kernel_rfl) (fun _ _ _ h => h) (Or.inl ⟨by rfl, ?_⟩) (by assumption) ?_
                rotate_left
                · intro w' hSw; (try dsimp only at hSw); go_simp; (try with_reducible rfl)
                (try simp only [Act.put, List.setIfInBounds_toArray, List.set_cons_zero, List.set_cons_succ])
                refine wpAnyH_ready (rs := [15]) (by kernel_rfl) (by simp) ?_
                refine AllReadyH.cons (take_at rfl) (fun K hK => ?_) AllReadyH.nil
                refine wp_store_mid 68 _ _ rfl g (jj * 78) (recW y.1).toArray rfl rfl (SRowW.there DR.out HL.out) (by rw [sizeW]; rfl) (recC78_all _) ?_
                have D2 := Lib.hid (SRowW.put DR.out HL.out y)
                have U2 := Lib.hid (But.setCells (recW y.1) (jj * 78) DB.out)
                change K _ (v0.setCells g (jj * 78) (recW y.1))
                generalize v0.setCells g (jj * 78) (recW y.1) = z1 at *
                refine hK.out _ _ ?_ (fun hHeld2 => ?_)
                · (try dsimp only); skip
                clear hK K hHeld
                have hHeld := hHeld2
                clear hHeld2
                (try simp only [Act.put, List.setIfInBounds_toArray, List.set_cons_zero, List.set_cons_succ])
                refine wpAnyH_take (i := 16) (v := ?_) (take_at rfl) (by kernel_rfl) (by kernel_rfl) (by kernel_rfl) (fun _ _ _ h => h) (Or.inl ⟨by rfl, ?_⟩) (by assumption) ?_
                rotate_left
                · intro w' hSw; (try dsimp only at hSw); go_simp; (try with_reducible rfl)
                (try simp only [Act.put, List.setIfInBounds_toArray, List.set_cons_zero, List.set_cons_succ])
                refine wpAnyH_ready (rs := [17]) (by kernel_rfl) (by simp) ?_
                refine AllReadyH.cons (take_at rfl) (fun K hK => ?_) AllReadyH.nil
                refine wp_store_mid 68 _ _ rfl g ((jj - 1) * 78) (recW x.1).toArray rfl rfl (SRowW.there D2.out (by rw [List.length_set]; have := HL.out; omega)) (by rw [sizeW]; rfl) (recC78_all _) ?_
                have D3 := Lib.hid (SRowW.put D2.out (j := jj - 1) (by rw [List.length_set]; have := HL.out; omega) x)
                have U3 := Lib.hid (But.setCells (recW x.1) ((jj - 1) * 78) U2.out)
                change K _ (z1.setCells g ((jj - 1) * 78) (recW x.1))
                generalize z1.setCells g ((jj - 1) * 78) (recW x.1) = z2 at *
                refine hK.out _ _ ?_ (fun hHeld2 => ?_)
                · (try dsimp only); skip
                clear hK K hHeld
                have hHeld := hHeld2
                clear hHeld2
                (try simp only [Act.put, List.setIfInBounds_toArray, List.set_cons_zero, List.set_cons_succ])
                refine wpAnyH_done (by kernel_rfl) ?_ _
                refine NoPanic.normal ?_
                clear RX RY DR DB D2 U2 hHeld
                go_wp2_with fail
                refine ⟨⟨jj - 1, S3, y :: S2, by rw [show ((jj - 1 : Nat) : Int) = (jj : Int) - 1 by omega], by rw [HJ1.out, HA.out]; omega, by omega, by rw [HSS.out, HS3.out]; simp, ?_, ?_⟩, by simp [intOf]; omega⟩
                · intro q hq
                  rcases List.mem_cons.1 hq with rfl | hq
                  · exact HCL.out
                  · exact HAll.out q hq
                · have r1 := D3.out
                  rw [HS3.out, HJ1.out, swap_listW] at r1
                  exact ⟨r1, U3.out⟩
              · refine wp_load_mid 68 _ rfl g (jj * 78) rfl _ _ (RX.out) Tryz.underlying68 rfl (by rw [sizeW]; rfl) ?_
                refine hK.out _ _ ?_ (fun hHeld2 => ?_)
                · (try dsimp only); skip
                clear hK K hHeld
                have hHeld := hHeld2
                clear hHeld2
                (try simp only [Act.put, List.setIfInBounds_toArray, List.set_cons_zero, List.set_cons_succ])
                refine wpAnyH_ready (rs := [9]) (by kernel_rfl) (by simp) ?_
                refine AllReadyH.cons (take_at rfl) (fun K hK => ?_) AllReadyH.nil
                refine wp_load_mid 68 _ rfl g ((jj - 1) * 78) rfl _ _ (RY.out) Tryz.underlying68 rfl (by rw [sizeW]; rfl) ?_
                refine hK.out _ _ ?_ (fun hHeld2 => ?_)
                · (try dsimp only); skip
                clear hK K hHeld
                have hHeld := hHeld2
                clear hHeld2
                (try simp only [Act.put, List.setIfInBounds_toArray, List.set_cons_zero, List.set_cons_succ])
                refine wpAnyH_take (i := 14) (v := ?_) (take_at rfl) (by kernel_rfl) (by kernel_rfl) (by kernel_rfl) (fun _ _ _ h => h) (Or.inl ⟨by rfl, ?_⟩) (by assumption) ?_
                rotate_left
                · intro w' hSw; (try dsimp only at hSw); go_simp; (try with_reducible rfl)
                (try simp only [Act.put, List.setIfInBounds_toArray, List.set_cons_zero, List.set_cons_succ])
                refine wpAnyH_ready (rs := [15]) (by kernel_rfl) (by simp) ?_
                refine AllReadyH.cons (take_at rfl) (fun K hK => ?_) AllReadyH.nil
                refine wp_store_mid 68 _ _ rfl g (jj * 78) (recW y.1).toArray rfl rfl (SRowW.there DR.out HL.out) (by rw [sizeW]; rfl) (recC78_all _) ?_
                have D2 := Lib.hid (SRowW.put DR.out HL.out y)
                have U2 := Lib.hid (But.setCells (recW y.1) (jj * 78) DB.out)
                change K _ (v0.setCells g (jj * 78) (recW y.1))
                generalize v0.setCells g (jj * 78) (recW y.1) = z1 at *
                refine hK.out _ _ ?_ (fun hHeld2 => ?_)
                · (try dsimp only); skip
                clear hK K hHeld
                have hHeld := hHeld2
                clear hHeld2
                (try simp only [Act.put, List.setIfInBounds_toArray, List.set_cons_zero, List.set_cons_succ])
                refine wpAnyH_take (i := 16) (v := ?_) (take_at rfl) (by kernel_rfl) (by kernel_rfl) (by kernel_rfl) (fun _ _ _ h => h) (Or.inl ⟨by rfl, ?_⟩) (by assumption) ?_
                rotate_left
                · intro w' hSw; (try dsimp only at hSw); go_simp; (try with_reducible rfl)
                (try simp only [Act.put, List.setIfInBounds_toArray, List.set_cons_zero, List.set_cons_succ])
                refine wpAnyH_ready (rs := [17]) (by kernel_rfl) (by simp) ?_
                refine AllReadyH.cons (take_at rfl) (fun K hK => ?_) AllReadyH.nil
                refine wp_store_mid 68 _ _ rfl g ((jj - 1) * 78) (recW x.1).toArray rfl rfl (SRowW.there D2.out (by rw [List.length_set]; have := HL.out; omega)) (by rw [sizeW]; rfl) (recC78_all _) ?_
                have D3 := Lib.hid (SRowW.put D2.out (j := jj - 1) (by rw [List.length_set]; have := HL.out; omega) x)
                have U3 := Lib.hid (But.setCells (recW x.1) ((jj - 1) * 78) U2.out)
                change K _ (z1.setCells g ((jj - 1) * 78) (recW x.1))
                generalize z1.setCells g ((jj - 1) * 78) (recW x.1) = z2 at *
                refine hK.out _ _ ?_ (fun hHeld2 => ?_)
                · (try dsimp only); skip
                clear hK K hHeld
                have hHeld := hHeld2
                clear hHeld2
                (try simp only [Act.put, List.setIfInBounds_toArray, List.set_cons_zero, List.set_cons_succ])
                refine wpAnyH_done (by kernel_rfl) ?_ _
                refine NoPanic.normal ?_
                clear RX RY DR DB D2 U2 hHeld
                go_wp2_with fail
                refine ⟨⟨jj - 1, S3, y :: S2, by rw [show ((jj - 1 : Nat) : Int) = (jj : Int) - 1 by omega], by rw [HJ1.out, HA.out]; omega, by omega, by rw [HSS.out, HS3.out]; simp, ?_, ?_⟩, by simp [intOf]; omega⟩
                · intro q hq
                  rcases List.mem_cons.1 hq with rfl | hq
                  · exact HCL.out
                  · exact HAll.out q hq
                · have r1 := D3.out
                  rw [HS3.out, HJ1.out, swap_listW] at r1
                  exact ⟨r1, U3.out⟩
            · have HD : Hid (Sorted (fun p q : PW => cmpV p.2.key q.2.key) (P ++ [x]) (S1 ++ x :: S2)) := by
                refine Sorted.insert HO.out (by rw [← HSS.out]; exact HSo.out) (fun y hy => ?_) HAll.out (fun q hq => ?_)
                · have h := HT.out
                  rw [HPQ.out, HQ.out] at h
                  exact (List.pairwise_append.1 h).2.2 y hy x (by simp)
                · rw [HS3.out] at hq
                  simp at hq
                  subst hq
                  exact hc
              go_wp2_with fail
              go_roundw
              case rel => exact ⟨i + 1, P ++ [x], Q', S1 ++ x :: S2, by go_num, by rw [HI.out]; simp; omega, by simp, by omega, by rw [HPQ.out, HQ.out]; simp, HD.out, J2.out⟩
              case measure => simp [intOf]; omega
          · have HN1 : Hid (S1 = []) := List.eq_nil_of_length_eq_zero (by have := HJ.out; omega)
            have HD : Hid (Sorted (fun p q : PW => cmpV p.2.key q.2.key) (P ++ [x]) (S1 ++ x :: S2)) := by
              refine Sorted.insert HO.out (by rw [← HSS.out]; exact HSo.out) (fun y hy => ?_) HAll.out (fun q hq => ?_)
              · have h := HT.out
                rw [HPQ.out, HQ.out] at h
                exact (List.pairwise_append.1 h).2.2 y hy x (by simp)
              · rw [HN1.out] at hq
                simp at hq
            clear I
            have hgt' : decide ((a : Int) < (jj : Int)) = false := decide_eq_false (by omega)
            go_upto_region 4 with fail
            go_quiet (fail)
            go_wp2_with fail
            go_roundw
            case rel => exact ⟨i + 1, P ++ [x], Q', S1 ++ x :: S2, by go_num, by rw [HI.out]; simp; omega, by simp, by omega, by rw [HPQ.out, HQ.out]; simp, HD.out, J.out.step (Below.drewN (Below.refl _ _) _)⟩
            case measure => simp [intOf]; omega
      · have HF : Hid (Q = []) := by
          have h1 := HBq.out
          have h2 := HI.out
          have h3 := HA.out
          rw [HPQ.out] at h1
          simp at h1
          exact List.eq_nil_of_length_eq_zero (by omega)
        clear I
        go_wp2_with fail
        go_end0
        refine ⟨rfl, S, ?_, ?_⟩
        · have := HSo.out; rw [HPQ.out, HF.out, List.append_nil]; exact this
        · have := J.out; rw [HF.out, List.nil_append] at this; exact this

theorem ordW : Ordered (fun p q : PW => cmpV p.2.key q.2.key) := ⟨fun _ _ => cmpV_anti _ _, fun _ _ _ => cmpV_tr _ _ _⟩
set_option maxRecDepth 100000 in
set_option maxHeartbeats 2000000 in
theorem stableW_any (L : List (PW × Nat)) (g n c : Nat) (w : World) (hr : SRowW w g L) (hn : n = L.length) (h20 : n ≤ 20) (ht : Tagged L) (hc : CmpOkW g w L) :
    Calls Tryz.prog 92 #[.slice (some ⟨g, 0, none⟩) n c, .int .i64 n, .func (.func 53) #[] #[]] w (IsDoneW g w [] L []) := by
  have HN := Lib.hid hn
  have HT := Lib.hid ht
  have HC := Lib.hid hc
  have I0 : Hid (SRowW w g ([] ++ L ++ [])) := by rw [Hid, List.nil_append, List.append_nil]; exact hr
  have HLN : Hid (n = ([] ++ L ++ []).length) := by rw [Hid, List.nil_append, List.append_nil]; exact hn
  clear hr hn ht hc
  go_enter Tryz.func92, Tryz.ntmps92
  go_wp2_with fail
  go_loopw [7, 8] (fun v7 v8 wr => (v7 = .int .i64 0 ∧ v8 = .int .i64 20 ∧ w = wr) ∨ (n = 20 ∧ v7 = .int .i64 20 ∧ v8 = .int .i64 40 ∧ ∃ S, Sorted (fun p q : PW => cmpV p.2.key q.2.key) L S ∧ IsW2 g w S wr)) (fun _ v8 _ => 60 - (intOf v8).toNat)
  case atStart => exact .inl ⟨rfl, rfl, rfl⟩
  case round =>
    rcases hrel with ⟨rfl, rfl, rfl⟩ | ⟨hn20, rfl, rfl, S, hS, hI⟩
    · by_cases hlt : n = 20
      · have HX := Lib.hid (isortW_any ordW [] L [] g n c 0 20 w I0.out HLN.out rfl (by rw [← HN.out, hlt]; rfl) (by omega) HT.out HC.out)
        have HN20 := Lib.hid hlt
        have hl1 : (20 : Int) ≤ (n : Int) := by omega
        clear hlt
        go_wp2_with fail
        refine HX.out.mono ?_
        rintro e w1 ⟨rfl, S, hS, h1⟩
        have HS := Lib.hid hS
        have H1 : Hid (IsW2 g w S w1) := by rw [List.nil_append, List.append_nil] at h1; exact h1
        clear hS h1
        go_wp2_with fail
        go_roundw
        case rel => exact .inr ⟨HN20.out, rfl, rfl, S, HS.out, H1.out⟩
        case measure => simp [intOf]
      · have HX := Lib.hid (isortW_any ordW [] L [] g n c 0 n w I0.out HLN.out rfl (by rw [← HN.out]; simp) (by omega) HT.out HC.out)
        have hlt' : n < 20 := by omega
        clear hlt
        go_wp2_with fail
        refine HX.out.mono ?_
        rintro e w1 ⟨rfl, S, hS, h1⟩
        have HS := Lib.hid hS
        have H1 := Lib.hid h1
        clear hS h1
        go_wp2_with fail
        go_loopw [6] (fun v6 wr => v6 = .int .i64 20 ∧ wr = w1) (fun _ _ => 0)
        case atStart => exact ⟨rfl, rfl⟩
        case round =>
          obtain ⟨rfl, rfl⟩ := hrel
          go_wp2_with fail
          go_end0
          exact ⟨rfl, S, HS.out, H1.out⟩
    · have HN20 := Lib.hid hn20
      have hl1 : (n : Int) ≤ 20 := by omega
      have hl2 : (n : Int) < 40 := by omega
      clear hn20
      have HS := Lib.hid hS
      have HIs := Lib.hid hI
      have HSl : Hid (S.length = 20) := by rw [Hid, hS.perm.length_eq, ← HN.out, HN20.out]
      have HX := Lib.hid (isortW_any ordW S [] [] g n c 20 n wr (by rw [List.append_nil, List.append_nil]; exact hI.row) (by rw [List.append_nil, List.append_nil, HSl.out, HN20.out]) HSl.out.symm (by rw [HSl.out, HN20.out]; rfl) (by omega) List.Pairwise.nil (fun x y hx => by simp at hx))
      clear hS hI
      go_wp2_with fail
      refine HX.out.mono ?_
      rintro e w1 ⟨rfl, S2, hS2, h1⟩
      have hS2' : S2 = [] := List.eq_nil_of_length_eq_zero (by have := hS2.perm.length_eq; simpa using this)
      subst hS2'
      have H1 : Hid (IsW2 g w ([] ++ S ++ []) w1) := by rw [List.append_nil, List.append_nil] at h1; rw [List.nil_append, List.append_nil]; exact HIs.out.then h1
      clear hS2 h1
      go_wp2_with fail
      go_loopw [6] (fun v6 wr => v6 = .int .i64 20 ∧ wr = w1) (fun _ _ => 0)
      case atStart => exact ⟨rfl, rfl⟩
      case round =>
        obtain ⟨rfl, rfl⟩ := hrel
        go_wp2_with fail
        go_end0
        exact ⟨rfl, S, HS.out, H1.out⟩

set_option maxRecDepth 100000 in
theorem sortStableW_any (L : List (PW × Nat)) (g n c : Nat) (w : World) (hr : SRowW w g L) (hn : n = L.length) (h20 : n ≤ 20) (ht : Tagged L) (hc : CmpOkW g w L) :
    Calls Tryz.prog 52 #[.slice (some ⟨g, 0, none⟩) n c, .func (.func 53) #[] #[]] w (IsDoneW g w [] L []) := by
  have HR := Lib.hid hr
  have HN := Lib.hid hn
  have HT := Lib.hid ht
  have HC := Lib.hid hc
  clear hr hn ht hc
  go_enter Tryz.func52, Tryz.ntmps52
  go_wp2_with fail
  refine (stableW_any L g n c _ HR.out HN.out h20 HT.out HC.out).mono ?_
  rintro e w1 hd
  have HD := Lib.hid hd
  obtain ⟨rfl, _⟩ := hd
  go_wp2_with fail
  go_end0
  exact HD.out

set_option maxRecDepth 100000 in
set_option maxHeartbeats 1000000 in
theorem orph1_any (x y : PW) (w : World) (h : RW w x.1.key x.2.key) (h' : RW w y.1.key y.2.key) :
    Calls Tryz.prog 53 #[.agg (recW x).toArray, .agg (recW y).toArray] w fun e w' => e = .returned (.int .i64 (cmpV x.2.key y.2.key)) ∧ Below w.heap.size w w' := by
  have H := Lib.hid h
  have H' := Lib.hid h'
  clear h h'
  obtain ⟨wa, hwa⟩ : ∃ wa, (w.alloc (Obj.cells (recW x).toArray 68)).alloc (Obj.cells (recW y).toArray 68) = wa := ⟨_, rfl⟩
  have B0 : Hid (Blk wa w.heap.size 68 (recW x).toArray) := by rw [← hwa]; exact (Blk.new_at rfl).alloc _
  have B1 : Hid (Blk wa (w.heap.size + 1) 68 (recW y).toArray) := by rw [← hwa]; exact Blk.new_at (by simp)
  have BE : Hid (Below w.heap.size w wa) := by rw [← hwa]; exact ((Below.refl _ _).alloc (Nat.le_refl _) _).alloc (by simp) _
  have HWA := Lib.hid hwa
  clear hwa
  obtain ⟨⟨kd, sp, kx, dx, si⟩, xt⟩ := x
  obtain ⟨⟨kd2, sp2, ky, dy, si2⟩, yt⟩ := y
  go_enter Tryz.func53, Tryz.ntmps53
  go_upto_region 1 with fail
  change Code.wp _ _ _ _ ((w.alloc (Obj.cells (recW (⟨kd, sp, kx, dx, si⟩, xt)).toArray 68)).alloc (Obj.cells (recW (⟨kd2, sp2, ky, dy, si2⟩, yt)).toArray 68))
  rw [HWA.out]
  clear HWA
  have a0 : wa.cell? ⟨w.heap.size, 2, none⟩ = some (.int .i64 kx.k) := B0.out.cellL rfl
  have a1 : wa.cell? ⟨w.heap.size, 3, none⟩ = some (.int .i64 kx.n) := B0.out.cellL rfl
  have a2 : wa.cell? ⟨w.heap.size, 4, none⟩ = some (.string kx.t) := B0.out.cellL rfl
  have a3 : wa.cell? ⟨w.heap.size, 5, none⟩ = some (.slice kx.LA kx.ln kx.lc) := B0.out.cellL rfl
  have a4 : wa.cell? ⟨w.heap.size, 6, none⟩ = some (.slice kx.DA kx.dn kx.dc) := B0.out.cellL rfl
  have b0 : wa.cell? ⟨w.heap.size + 1, 2, none⟩ = some (.int .i64 ky.k) := B1.out.cellL rfl
  have b1 : wa.cell? ⟨w.heap.size + 1, 3, none⟩ = some (.int .i64 ky.n) := B1.out.cellL rfl
  have b2 : wa.cell? ⟨w.heap.size + 1, 4, none⟩ = some (.string ky.t) := B1.out.cellL rfl
  have b3 : wa.cell? ⟨w.heap.size + 1, 5, none⟩ = some (.slice ky.LA ky.ln ky.lc) := B1.out.cellL rfl
  have b4 : wa.cell? ⟨w.heap.size + 1, 6, none⟩ = some (.slice ky.DA ky.dn ky.dc) := B1.out.cellL rfl
  have HCM := Lib.hid (cmp_any xt.key yt.key kx ky wa (H.out.step BE.out) (H'.out.step BE.out))
  go_wp2_with fail
  refine HCM.out.mono ?_
  rintro e w1 ⟨rfl, hb⟩
  have BZ := Lib.hid (BE.out.step' hb)
  clear hb HCM
  go_wp2_with fail
  go_ret
  exact ⟨rfl, BZ.out⟩

end Go.Proofs.YtlmmgjgkmbmgpaaGreatDoor



/- Commit's contract with the new routes; the calls that are refused. Printed by gen_mgcommit.py. -/
namespace Go.Proofs.YtlmmgjgkmbmgpaaGreatDoor
open Go.RowKit
set_option linter.unusedSimpArgs false

theorem SR.keep_but {α : Type} {s : Nat} {rec : α → List Value} {w w' : World} {g : Nat} {A : Option Addr} {n c : Nat} {l : List α} (h : SR s rec w A n c l) (hs : w.heap.size ≤ w'.heap.size) (ho : ∀ k, k ≠ g → w'.heap[k]? = w.heap[k]?)
    (hb : ∀ b off, 0 < n → A = some ⟨b, off, none⟩ → (∀ (i : Nat) (a : α), l[i]? = some a → ∀ (j : Nat) (v : Value), (rec a)[j]? = some v → w.cell? ⟨b, off + i * s + j, none⟩ = some v) → b ≠ g) : SR s rec w' A n c l := by
  refine ⟨h.ln, h.lc, fun hn => ?_⟩
  obtain ⟨b, off, h1, h2, h3⟩ := h.el hn
  have hne := hb b off hn h1 h3
  exact ⟨b, off, h1, Nat.lt_of_lt_of_le h2 hs, fun i x hi j v hj => (World.cell?_of_block (a := ⟨b, off + i * s + j, none⟩) (ho b hne)).trans (h3 i x hi j v hj)⟩
/-- routes stay as they are if one block changes that holds no order with a path, no chunk, and no name that is lost -/
theorem RR.keep_but {w w' : World} {b : RA} {S : Ro} {g : Nat} (h : RR w b S) (hp : ∀ q ∈ S.ks, pathB q.p = true) (hs : w.heap.size ≤ w'.heap.size) (ho : ∀ k, k ≠ g → w'.heap[k]? = w.heap[k]?)
    (h1 : ∀ off A n c d, 0 < n → w.cell? ⟨g, off, none⟩ = some (.slice A n c) → w.cell? ⟨g, off + 1, none⟩ = some (.bool d) → False)
    (h2 : ∀ off s t d, w.cell? ⟨g, off, none⟩ = some (.string s) → w.cell? ⟨g, off + 1, none⟩ = some (.string t) → w.cell? ⟨g, off + 4, none⟩ = some (.bool d) → False)
    (h3 : ∀ off s, nameB s = true → w.cell? ⟨g, off, none⟩ = some (.string s) → w'.cell? ⟨g, off, none⟩ = some (.string s)) : RR w' b S := by
  refine ⟨h.sp, ?_, ⟨h.cs.sr.keep_but hs ho fun b off hn _ hc e => ?_, h.cs.sz⟩⟩
  · obtain ⟨os, k⟩ := h.ks
    refine ⟨os, k.sr.keep_but hs ho fun b off hn _ hc e => ?_, k.sz, k.ln, fun i o q hi hq => ⟨(k.el i o q hi hq).d, ?_⟩⟩
    · subst e
      have hl : 0 < os.length := by have := k.sr.ln; omega
      have hl2 : 0 < S.ks.length := by have := k.ln; omega
      have e0 := List.getElem?_eq_getElem hl
      have e1 := List.getElem?_eq_getElem hl2
      have hln := (k.el 0 _ _ e0 e1).st.sr.ln
      have hpp := hp _ (List.getElem_mem hl2)
      simp only [pathB, Bool.and_eq_true, decide_eq_true_eq] at hpp
      exact h1 _ _ _ _ _ (by omega : 0 < (os[0]).n) (hc 0 _ e0 0 _ rfl) (hc 0 _ e0 1 _ rfl)
    · have st := (k.el i o q hi hq).st
      have hpp := hp q (List.mem_of_getElem? hq)
      simp only [pathB, Bool.and_eq_true, List.all_eq_true] at hpp
      refine ⟨⟨st.sr.ln, st.sr.lc, fun hn => ?_⟩, st.sz, st.el⟩
      obtain ⟨b, off, e, hl, hc⟩ := st.sr.el hn
      refine ⟨b, off, e, Nat.lt_of_lt_of_le hl hs, fun i x hi j v hj => ?_⟩
      by_cases hb : b = g
      · subst hb
        cases j with
        | zero =>
          simp [recT] at hj
          subst hj
          exact h3 _ _ (hpp.2 x (List.mem_of_getElem? hi)) (hc i x hi 0 _ rfl)
        | succ j => simp [recT] at hj
      · exact (World.cell?_of_block (a := ⟨b, off + i * 1 + j, none⟩) (ho b hb)).trans (hc i x hi j v hj)
  · subst e
    have hl : 0 < S.cs.length := by have := h.cs.ln; omega
    have e0 := List.getElem?_eq_getElem hl
    exact h2 _ _ _ _ (hc 0 _ e0 0 _ rfl) (hc 0 _ e0 1 _ rfl) (hc 0 _ e0 4 _ rfl)
theorem marr_bool {a : MA} {M : Mv} {i : Nat} {d : Bool} (h : (marr a M)[i]? = some (.bool d)) : False := by
  match i with
  | 0 => simp [marr] at h
  | 1 => simp [marr] at h
  | 2 => simp [marr] at h
  | 3 => simp [marr] at h
  | 4 => simp [marr] at h
  | 5 => simp [marr] at h
  | 6 => simp [marr] at h
  | 7 => simp [marr] at h
  | k + 8 => simp [marr] at h
theorem marr_string {a : MA} {M : Mv} {i : Nat} {s : ByteArray} (h : (marr a M)[i]? = some (.string s)) : i < 3 ∧ (s = M.sp ∨ s = M.lo ∨ s = M.hi) := by
  match i with
  | 0 => simp [marr] at h; exact ⟨by omega, .inl h.symm⟩
  | 1 => simp [marr] at h; exact ⟨by omega, .inr (.inl h.symm)⟩
  | 2 => simp [marr] at h; exact ⟨by omega, .inr (.inr h.symm)⟩
  | 3 => simp [marr] at h
  | 4 => simp [marr] at h
  | 5 => simp [marr] at h
  | 6 => simp [marr] at h
  | 7 => simp [marr] at h
  | k + 8 => simp [marr] at h
/-- a migration's block changes: it was empty, or its strings stay -/
theorem RR.keep_mv {w w' : World} {b : RA} {S : Ro} {g : Nat} {t : TypeId} {a : MA} {M : Mv} (h : RR w b S) (hp : ∀ q ∈ S.ks, pathB q.p = true) (hs : w.heap.size ≤ w'.heap.size) (ho : ∀ k, k ≠ g → w'.heap[k]? = w.heap[k]?)
    (B : Blk w g t (marr a M)) (hk : True → (M.sp = ByteArray.empty ∧ M.lo = ByteArray.empty ∧ M.hi = ByteArray.empty) ∨ ∀ j, j < 3 → w'.cell? ⟨g, j, none⟩ = w.cell? ⟨g, j, none⟩) : RR w' b S := by
  refine h.keep_but (g := g) hp hs ho (fun off A n c d _ _ hd => ?_) (fun off s t d _ _ hd => ?_) fun off s hn hc => ?_
  · rw [B.cell] at hd; exact marr_bool hd
  · rw [B.cell] at hd; exact marr_bool hd
  · have hc2 := hc
    rw [B.cell] at hc2
    obtain ⟨h1, h2⟩ := marr_string hc2
    rcases hk trivial with ⟨e1, e2, e3⟩ | hk
    · rw [e1, e2, e3] at h2
      have : s = ByteArray.empty := by rcases h2 with h | h | h <;> exact h
      subst this
      exact absurd hn (by decide)
    · rw [hk off h1]; exact hc
theorem RR.keep_ro {w w' : World} {b : RA} {S : Ro} {g : Nat} {t : TypeId} (h : RR w b S) (hp : ∀ q ∈ S.ks, pathB q.p = true) (hs : w.heap.size ≤ w'.heap.size) (ho : ∀ k, k ≠ g → w'.heap[k]? = w.heap[k]?) (B : Blk w g t (rarr RA.zero Ro.zero)) : RR w' b S := by
  refine h.keep_but (g := g) hp hs ho (fun off A n c d hn hc _ => ?_) (fun off s t d h1 h2 _ => ?_) fun off s hn hc => ?_
  · have := zero_slice (zero_cell B hc); omega
  · have c0 := zero_string (zero_cell B h1); have c1 := zero_string (zero_cell B h2); omega
  · have := (zero_string (zero_cell B hc)).2
    subst this
    exact absurd hn (by decide)

set_option maxRecDepth 100000 in
set_option maxHeartbeats 2000000 in
theorem commit_rr (M : Mv) (ma : MA) (R : Ro) (a : RA) (w : World) (h : RR w a R) (hst : M.st = 2) (hcn : ma.cn = 0) (hhn : ma.hn = 0) (hg : (giveR R M.lo M.tt).2 = 0) (hp : ∀ q ∈ (giveR R M.lo M.tt).1.ks, pathB q.p = true) : Calls Tryz.prog 17 #[mval ma M, rval a R] w
    fun e w' => ∃ a1 : RA, e = .returned (.tuple #[mval MA.zero ⟨M.sp, M.lo, M.hi, M.fr, M.tt, 4, [], []⟩, rval a1 (giveR R M.lo M.tt).1, .int .i64 0]) ∧ RR w' a1 (giveR R M.lo M.tt).1 ∧ Below w.heap.size w w' := by
  obtain ⟨CA, cn, cc, HA, hn, hc2⟩ := ma
  obtain ⟨sp, lo, hi, fr, tt, st, cp, ch⟩ := M
  simp only at hst hcn hhn hg hp ⊢
  subst hst hcn hhn
  have HR := Lib.hid h
  have HG := Lib.hid hg
  have HP0 := Lib.hid hp
  clear h hg hp
  obtain ⟨wa, hwa⟩ : ∃ wa, (((w.alloc (Obj.cells (marr ⟨CA, 0, cc, HA, 0, hc2⟩ ⟨sp, lo, hi, fr, tt, 2, cp, ch⟩) 37)).alloc (Obj.cells (rarr a R) 27)).alloc (Obj.cells (marr MA.zero Mv.zero) 37)).alloc (Obj.cells (rarr RA.zero Ro.zero) 27) = wa := ⟨_, rfl⟩
  have B0 : Hid (Blk wa w.heap.size 37 (marr ⟨CA, 0, cc, HA, 0, hc2⟩ ⟨sp, lo, hi, fr, tt, 2, cp, ch⟩)) := by rw [← hwa]; exact (((Blk.new_at rfl).alloc _).alloc _).alloc _
  have B1 : Hid (Blk wa (w.heap.size + 1) 27 (rarr a R)) := by rw [← hwa]; exact ((Blk.new_at (by simp)).alloc _).alloc _
  have B2 : Hid (Blk wa (w.heap.size + 2) 37 (marr MA.zero Mv.zero)) := by rw [← hwa]; exact (Blk.new_at (by simp)).alloc _
  have B3 : Hid (Blk wa (w.heap.size + 3) 27 (rarr RA.zero Ro.zero)) := by rw [← hwa]; exact Blk.new_at (by simp)
  have BE : Hid (Below w.heap.size w wa) := by rw [← hwa]; exact ((((Below.refl _ _).alloc (Nat.le_refl _) _).alloc (by simp) _).alloc (by simp; omega) _).alloc (by simp; omega) _
  have HWA := Lib.hid hwa
  clear hwa
  go_enter Tryz.func17, Tryz.ntmps17
  go_upto_region 1 with fail
  change Code.wp _ _ _ _ ((((w.alloc (Obj.cells (marr ⟨CA, 0, cc, HA, 0, hc2⟩ ⟨sp, lo, hi, fr, tt, 2, cp, ch⟩) 37)).alloc (Obj.cells (rarr a R) 27)).alloc (Obj.cells (marr MA.zero Mv.zero) 37)).alloc (Obj.cells (rarr RA.zero Ro.zero) 27))
  rw [HWA.out]
  clear HWA
  have HGA := Lib.hid (give_any R a lo tt wa (HR.out.step BE.out))
  obtain ⟨m0, m1, m2, m3, m4, m5, m6, m7⟩ := blk_mv B0.out
  simp only at m6 m7
  go_wp2_with (refine wpList_load_row rfl 27 _ rfl (w.heap.size + 1) rfl _ _ _ _ B1.out Tryz.underlying27 rfl (by rw [sizeR]; rfl) ?_)
  refine HGA.out.mono ?_
  rintro e w1 ⟨a1, rfl, hrr, hb⟩
  rw [HG.out]
  have C0 := Lib.hid (B0.out.step hb)
  have C2 := Lib.hid (B2.out.step hb)
  have C3 := Lib.hid (B3.out.step hb)
  have CE := Lib.hid (BE.out.step' hb)
  have HWL : Hid (w.heap.size + 3 < wa.heap.size) := B3.out.lt
  obtain ⟨G, hG⟩ : ∃ G, (giveR R lo tt).1 = G := ⟨_, rfl⟩
  have RR1 : Hid (RR w1 a1 G) := by rw [← hG]; exact hrr
  have HP : Hid (∀ q ∈ G.ks, pathB q.p = true) := by rw [← hG]; exact HP0.out
  rw [hG]
  have HGG := Lib.hid hG
  clear hG hrr HP0
  clear hb B0 B1 B2 B3 BE m0 m1 m2 m3 m4 m5 m6 m7 HGA HG
  go_upto_region 4 with fail
  change Code.wp _ _ _ _ (w1.alloc (Obj.cells (rarr a1 G) 27))
  have D7 : Hid (Blk (w1.alloc (Obj.cells (rarr a1 G) 27)) w1.heap.size 27 (rarr a1 G)) := Blk.new_at rfl
  have D0 := Lib.hid (C0.out.alloc (Obj.cells (rarr a1 G) 27))
  have D2 := Lib.hid (C2.out.alloc (Obj.cells (rarr a1 G) 27))
  have D3 := Lib.hid (C3.out.alloc (Obj.cells (rarr a1 G) 27))
  have DE := Lib.hid (CE.out.alloc CE.out.size (Obj.cells (rarr a1 G) 27))
  have hg7 : w.heap.size + 3 < w1.heap.size := C3.out.lt
  have RR2 := Lib.hid (RR1.out.alloc (Obj.cells (rarr a1 G) 27))
  clear RR1
  generalize w1.alloc (Obj.cells (rarr a1 G) 27) = w2 at *
  generalize w1.heap.size = g7 at *
  clear C0 C2 C3 CE
  have hN : w.heap.size + 3 < w2.heap.size := D3.out.lt
  obtain ⟨m0, m1, m2, m3, m4, m5, m6, m7⟩ := blk_mv D0.out
  simp only at m6 m7
  have z6 := D0.out.frozen 6
  go_upto_region 7 with fail
  change Code.wp _ _ _ _ (w2.setCell ⟨w.heap.size, 6, none⟩ (.slice none 0 0))
  have P0 : Hid (Blk (w2.setCell ⟨w.heap.size, 6, none⟩ (.slice none 0 0)) w.heap.size 37 #[.string sp, .string lo, .string hi, .int .i64 fr, .int .i64 tt, .int .i64 2, .slice none 0 0, .slice HA 0 hc2]) := D0.out.set_ 6 _
  have P2 := Lib.hid (D2.out.far (p := ⟨w.heap.size, 6, none⟩) (by show w.heap.size + 2 ≠ w.heap.size; omega) (.slice none 0 0))
  have P3 := Lib.hid (D3.out.far (p := ⟨w.heap.size, 6, none⟩) (by show w.heap.size + 3 ≠ w.heap.size; omega) (.slice none 0 0))
  have P7 := Lib.hid (D7.out.far (p := ⟨w.heap.size, 6, none⟩) (by show g7 ≠ w.heap.size; omega) (.slice none 0 0))
  have PE := Lib.hid (DE.out.setCell (p := ⟨w.heap.size, 6, none⟩) (Nat.le_refl _) (.slice none 0 0))
  have RR3 : Hid (RR (w2.setCell ⟨w.heap.size, 6, none⟩ (.slice none 0 0)) a1 G) := RR2.out.keep_mv HP.out (by simp [World.setCell]) (fun b hb => Below.heap_setCell _ _ _ b hb) D0.out (fun _ => .inr fun j hj => by rw [World.cell?_setCell_other _ _ _ _ (by intro e; injection e with _ e; omega)])
  clear RR2 m0 m1 m2 m3 m4 m5 m6 m7 z6 D0 D2 D3 D7 DE
  generalize w2.setCell ⟨w.heap.size, 6, none⟩ (.slice none 0 0) = w3 at *
  have m7 : w3.cell? ⟨w.heap.size, 7, none⟩ = some (.slice HA 0 hc2) := P0.out.cell 7
  have z7 := P0.out.frozen 7
  go_upto_region 8 with fail
  change Code.wp _ _ _ _ (w3.setCell ⟨w.heap.size, 7, none⟩ (.slice none 0 0))
  have Q0 : Hid (Blk (w3.setCell ⟨w.heap.size, 7, none⟩ (.slice none 0 0)) w.heap.size 37 (marr MA.zero ⟨sp, lo, hi, fr, tt, 2, [], []⟩)) := P0.out.set_ 7 _
  have Q2 := Lib.hid (P2.out.far (p := ⟨w.heap.size, 7, none⟩) (by show w.heap.size + 2 ≠ w.heap.size; omega) (.slice none 0 0))
  have Q3 := Lib.hid (P3.out.far (p := ⟨w.heap.size, 7, none⟩) (by show w.heap.size + 3 ≠ w.heap.size; omega) (.slice none 0 0))
  have Q7 := Lib.hid (P7.out.far (p := ⟨w.heap.size, 7, none⟩) (by show g7 ≠ w.heap.size; omega) (.slice none 0 0))
  have QE := Lib.hid (PE.out.setCell (p := ⟨w.heap.size, 7, none⟩) (Nat.le_refl _) (.slice none 0 0))
  have RR4 : Hid (RR (w3.setCell ⟨w.heap.size, 7, none⟩ (.slice none 0 0)) a1 G) := RR3.out.keep_mv HP.out (by simp [World.setCell]) (fun b hb => Below.heap_setCell _ _ _ b hb) (a := ⟨none, 0, 0, HA, 0, hc2⟩) (M := ⟨sp, lo, hi, fr, tt, 2, [], []⟩) P0.out (fun _ => .inr fun j hj => by rw [World.cell?_setCell_other _ _ _ _ (by intro e; injection e with _ e; omega)])
  clear RR3 m7 z7 P0 P2 P3 P7 PE
  generalize w3.setCell ⟨w.heap.size, 7, none⟩ (.slice none 0 0) = w4 at *
  have m5 : w4.cell? ⟨w.heap.size, 5, none⟩ = some (.int .i64 2) := Q0.out.cell 5
  have z5 := Q0.out.frozen 5
  go_upto_region 9 with fail
  change Code.wp _ _ _ _ (w4.setCell ⟨w.heap.size, 5, none⟩ (.int .i64 4))
  have V0 : Hid (Blk (w4.setCell ⟨w.heap.size, 5, none⟩ (.int .i64 4)).drew w.heap.size 37 (marr ⟨none, 0, 0, none, 0, 0⟩ ⟨sp, lo, hi, fr, tt, 4, [], []⟩)) := Q0.out.set_ 5 _
  have V2 : Hid (Blk (w4.setCell ⟨w.heap.size, 5, none⟩ (.int .i64 4)).drew (w.heap.size + 2) 37 (marr MA.zero Mv.zero)) := Q2.out.far (p := ⟨w.heap.size, 5, none⟩) (by show w.heap.size + 2 ≠ w.heap.size; omega) (.int .i64 4)
  have V3 : Hid (Blk (w4.setCell ⟨w.heap.size, 5, none⟩ (.int .i64 4)).drew (w.heap.size + 3) 27 (rarr RA.zero Ro.zero)) := Q3.out.far (p := ⟨w.heap.size, 5, none⟩) (by show w.heap.size + 3 ≠ w.heap.size; omega) (.int .i64 4)
  have V7 : Hid (Blk (w4.setCell ⟨w.heap.size, 5, none⟩ (.int .i64 4)).drew g7 27 (rarr a1 G)) := Q7.out.far (p := ⟨w.heap.size, 5, none⟩) (by show g7 ≠ w.heap.size; omega) (.int .i64 4)
  have VE : Hid (Below w.heap.size w (w4.setCell ⟨w.heap.size, 5, none⟩ (.int .i64 4)).drew) := (QE.out.setCell (p := ⟨w.heap.size, 5, none⟩) (Nat.le_refl _) (.int .i64 4)).drew
  have RV0 : Hid (RR (w4.setCell ⟨w.heap.size, 5, none⟩ (.int .i64 4)) a1 G) := RR4.out.keep_mv HP.out (by simp [World.setCell]) (fun b hb => Below.heap_setCell _ _ _ b hb) Q0.out (fun _ => .inr fun j hj => by rw [World.cell?_setCell_other _ _ _ _ (by intro e; injection e with _ e; omega)])
  have RV9 : Hid (RR (w4.setCell ⟨w.heap.size, 5, none⟩ (.int .i64 4)).drew a1 G) := RV0.out.step ((Below.refl _ _).drew)
  clear RV0 RR4 m5 z5 Q0 Q2 Q3 Q7 QE
  generalize w4.setCell ⟨w.heap.size, 5, none⟩ (.int .i64 4) = w9 at *
  have RV : Hid (RR w9.drew a1 G) := RV9
  clear RV9
  refine wp_region_noPanic ?_
  refine wp_region_held_drew (S := (fun w' => Blk w' w.heap.size 37 (marr ⟨none, 0, 0, none, 0, 0⟩ ⟨sp, lo, hi, fr, tt, 4, [], []⟩) ∧ Blk w' g7 27 (rarr a1 G))) (by kernel_rfl) ?_ (fun hHeld => ?_)
  · (try dsimp only); exact ⟨V0.out, V7.out⟩
  generalize w9.drew = v0 at *
  refine wpAnyH_take (i := 0) (v := .agg (marr ⟨none, 0, 0, none, 0, 0⟩ ⟨sp, lo, hi, fr, tt, 4, [], []⟩)) (take_at rfl) (by kernel_rfl) (by kernel_rfl) (by kernel_rfl) (fun _ _ _ h => h) (Or.inl ⟨by rfl, ?_⟩) (by assumption) ?_
  · intro w' hSw; exact exec_row rfl rfl hSw.1 Tryz.underlying37 rfl (by rw [sizeM]; rfl)
  (try simp only [Act.put, List.setIfInBounds_toArray, List.set_cons_zero, List.set_cons_succ])
  refine wpAnyH_take (i := 1) (v := .agg (rarr a1 G)) (take_at rfl) (by kernel_rfl) (by kernel_rfl) (by kernel_rfl) (fun _ _ _ h => h) (Or.inl ⟨by rfl, ?_⟩) (by assumption) ?_
  · intro w' hSw; exact exec_row rfl rfl hSw.2 Tryz.underlying27 rfl (by rw [sizeR]; rfl)
  (try simp only [Act.put, List.setIfInBounds_toArray, List.set_cons_zero, List.set_cons_succ])
  refine wpAnyH_ready (rs := [2]) (by kernel_rfl) (by simp) ?_
  refine AllReadyH.cons (take_at rfl) (fun K hK => ?_) AllReadyH.nil
  refine wp_store_row 37 _ _ rfl (w.heap.size + 2) (marr ⟨none, 0, 0, none, 0, 0⟩ ⟨sp, lo, hi, fr, tt, 4, [], []⟩) rfl rfl 37 _ V2.out (by rw [sizeM]; rfl) rfl (marr_all _ _) ?_
  have U2 := Lib.hid (Blk.row V2.out (marr ⟨none, 0, 0, none, 0, 0⟩ ⟨sp, lo, hi, fr, tt, 4, [], []⟩))
  have U0 := Lib.hid (Blk.row_far V0.out (by omega : w.heap.size ≠ w.heap.size + 2) (marr ⟨none, 0, 0, none, 0, 0⟩ ⟨sp, lo, hi, fr, tt, 4, [], []⟩))
  have U3 := Lib.hid (Blk.row_far V3.out (by omega : w.heap.size + 3 ≠ w.heap.size + 2) (marr ⟨none, 0, 0, none, 0, 0⟩ ⟨sp, lo, hi, fr, tt, 4, [], []⟩))
  have U7 := Lib.hid (Blk.row_far V7.out (by omega : g7 ≠ w.heap.size + 2) (marr ⟨none, 0, 0, none, 0, 0⟩ ⟨sp, lo, hi, fr, tt, 4, [], []⟩))
  have UE := Lib.hid (below_row VE.out (by omega : w.heap.size ≤ w.heap.size + 2) (marr ⟨none, 0, 0, none, 0, 0⟩ ⟨sp, lo, hi, fr, tt, 4, [], []⟩))
  have RV1 : Hid (RR (v0.setRow (w.heap.size + 2) (marr ⟨none, 0, 0, none, 0, 0⟩ ⟨sp, lo, hi, fr, tt, 4, [], []⟩)) a1 G) := RV.out.keep_mv HP.out (by rw [size_setRow]; exact Nat.le_refl _) (fun b hb => setRow_other _ _ _ _ hb) V2.out (fun _ => .inl ⟨rfl, rfl, rfl⟩)
  clear V0 V2 V3 V7 VE
  generalize v0.setRow (w.heap.size + 2) (marr ⟨none, 0, 0, none, 0, 0⟩ ⟨sp, lo, hi, fr, tt, 4, [], []⟩) = x1 at *
  refine hK.out _ _ ?_ (fun hHeld2 => ?_)
  · (try dsimp only); exact ⟨U0.out, U7.out⟩
  clear hK K hHeld
  have hHeld := hHeld2
  clear hHeld2
  (try simp only [Act.put, List.setIfInBounds_toArray, List.set_cons_zero, List.set_cons_succ])
  refine wpAnyH_ready (rs := [3]) (by kernel_rfl) (by simp) ?_
  refine AllReadyH.cons (take_at rfl) (fun K hK => ?_) AllReadyH.nil
  refine wp_store_row 27 _ _ rfl (w.heap.size + 3) (rarr a1 G) rfl rfl 27 _ U3.out (by rw [sizeR]; rfl) rfl (rarr_all _ _) ?_
  have T3 := Lib.hid (Blk.row U3.out (rarr a1 G))
  have T0 := Lib.hid (Blk.row_far U0.out (by omega : w.heap.size ≠ w.heap.size + 3) (rarr a1 G))
  have T2 := Lib.hid (Blk.row_far U2.out (by omega : w.heap.size + 2 ≠ w.heap.size + 3) (rarr a1 G))
  have T7 := Lib.hid (Blk.row_far U7.out (by omega : g7 ≠ w.heap.size + 3) (rarr a1 G))
  have TE := Lib.hid (below_row UE.out (by omega : w.heap.size ≤ w.heap.size + 3) (rarr a1 G))
  have RV2 : Hid (RR (x1.setRow (w.heap.size + 3) (rarr a1 G)) a1 G) := RV1.out.keep_ro HP.out (by rw [size_setRow]; exact Nat.le_refl _) (fun b hb => setRow_other _ _ _ _ hb) U3.out
  clear U0 U2 U3 U7 UE
  generalize x1.setRow (w.heap.size + 3) (rarr a1 G) = x2 at *
  refine hK.out _ _ ?_ (fun hHeld2 => ?_)
  · (try dsimp only); exact ⟨T0.out, T7.out⟩
  clear hK K hHeld
  have hHeld := hHeld2
  clear hHeld2
  (try simp only [Act.put, List.setIfInBounds_toArray, List.set_cons_zero, List.set_cons_succ])
  refine wpAnyH_take (i := 4) (v := ?_) (take_at rfl) (by kernel_rfl) (by kernel_rfl) (by kernel_rfl) (fun _ _ _ h => h) (Or.inl ⟨by rfl, ?_⟩) (by assumption) ?_
  rotate_left
  · intro w' hSw; (try dsimp only at hSw); go_simp; (try with_reducible rfl)
  (try simp only [Act.put, List.setIfInBounds_toArray, List.set_cons_zero, List.set_cons_succ])
  refine wpAnyH_done (by kernel_rfl) ?_ _
  refine NoPanic.normal ?_
  all_goals
    go_wp2_with fail
    exact bodyPost_ret (results_commit rfl _ (w.heap.size + 2) (w.heap.size + 3) rfl rfl (.int .i64 0) rfl _ MA.zero ⟨sp, lo, hi, fr, tt, 4, [], []⟩ a1 G T2.out T3.out) rfl ⟨a1, by rw [HGG.out], by rw [HGG.out]; exact RV2.out, TE.out⟩

set_option maxRecDepth 100000 in
set_option maxHeartbeats 2000000 in
theorem commit_no (M : Mv) (ma : MA) (R : Ro) (a : RA) (w : World) (hst : M.st = 5) : Calls Tryz.prog 17 #[mval ma M, rval a R] w
    fun e w' => e = .returned (.tuple #[mval MA.zero Mv.zero, rval RA.zero Ro.zero, .int .i64 23]) ∧ Below w.heap.size w w' := by
  obtain ⟨sp, lo, hi, fr, tt, st, cp, ch⟩ := M
  simp only at hst
  subst hst
  obtain ⟨wa, hwa⟩ : ∃ wa, (((w.alloc (Obj.cells (marr ma ⟨sp, lo, hi, fr, tt, 5, cp, ch⟩) 37)).alloc (Obj.cells (rarr a R) 27)).alloc (Obj.cells (marr MA.zero Mv.zero) 37)).alloc (Obj.cells (rarr RA.zero Ro.zero) 27) = wa := ⟨_, rfl⟩
  have B0 : Hid (Blk wa w.heap.size 37 (marr ma ⟨sp, lo, hi, fr, tt, 5, cp, ch⟩)) := by rw [← hwa]; exact (((Blk.new_at rfl).alloc _).alloc _).alloc _
  have B2 : Hid (Blk wa (w.heap.size + 2) 37 (marr MA.zero Mv.zero)) := by rw [← hwa]; exact (Blk.new_at (by simp)).alloc _
  have B3 : Hid (Blk wa (w.heap.size + 3) 27 (rarr RA.zero Ro.zero)) := by rw [← hwa]; exact Blk.new_at (by simp)
  have BE : Hid (Below w.heap.size w wa) := by rw [← hwa]; exact ((((Below.refl _ _).alloc (Nat.le_refl _) _).alloc (by simp) _).alloc (by simp; omega) _).alloc (by simp; omega) _
  have HWA := Lib.hid hwa
  clear hwa
  go_enter Tryz.func17, Tryz.ntmps17
  go_upto_region 1 with fail
  change Code.wp _ _ _ _ ((((w.alloc (Obj.cells (marr ma ⟨sp, lo, hi, fr, tt, 5, cp, ch⟩) 37)).alloc (Obj.cells (rarr a R) 27)).alloc (Obj.cells (marr MA.zero Mv.zero) 37)).alloc (Obj.cells (rarr RA.zero Ro.zero) 27))
  rw [HWA.out]
  clear HWA
  have q5 : wa.cell? ⟨w.heap.size, 5, none⟩ = some (.int .i64 5) := B0.out.cell 5
  have B3R := Lib.hid (Blk.row_far B3.out (by omega : w.heap.size + 3 ≠ w.heap.size + 2) (marr MA.zero Mv.zero))
  go_wp2_with (first | (refine wpList_store_row rfl 37 _ _ rfl (w.heap.size + 2) (marr MA.zero Mv.zero) rfl rfl 37 _ B2.out (by rw [sizeM]; rfl) rfl (marr_all _ _) ?_) | (refine wpList_store_row rfl 27 _ _ rfl (w.heap.size + 3) (rarr RA.zero Ro.zero) rfl rfl 27 _ B3R.out (by rw [sizeR]; rfl) rfl (rarr_all _ _) ?_))
  exact bodyPost_ret (results_commit rfl _ (w.heap.size + 2) (w.heap.size + 3) rfl rfl (.int .i64 23) rfl _ MA.zero Mv.zero RA.zero Ro.zero (Blk.row_far (Blk.row B2.out _) (by omega) _) (Blk.row B3R.out _)) rfl ⟨rfl, below_row (below_row BE.out (by omega) _) (by omega) _⟩

set_option maxRecDepth 100000 in
set_option maxHeartbeats 2000000 in
theorem mgcopy_no (M : Mv) (ma : MA) (R : Ro) (a : RA) (DA : Option Addr) (dn dc : Nat) (w : World) (hst : M.st = 5) :
    Calls Tryz.prog 11 #[mval ma M, rval a R, .slice DA dn dc] w fun e w' => e = .returned (.tuple #[mval MA.zero Mv.zero, .int .i64 23]) ∧ Below w.heap.size w w' := by
  obtain ⟨sp, lo, hi, fr, tt, st, cp, ch⟩ := M
  simp only at hst
  subst hst
  obtain ⟨wa, hwa⟩ : ∃ wa, ((w.alloc (Obj.cells (marr ma ⟨sp, lo, hi, fr, tt, 5, cp, ch⟩) 37)).alloc (Obj.cells (rarr a R) 27)).alloc (Obj.cells (marr MA.zero Mv.zero) 37) = wa := ⟨_, rfl⟩
  have B0 : Hid (Blk wa w.heap.size 37 (marr ma ⟨sp, lo, hi, fr, tt, 5, cp, ch⟩)) := by rw [← hwa]; exact ((Blk.new_at rfl).alloc _).alloc _
  have B2 : Hid (Blk wa (w.heap.size + 2) 37 (marr MA.zero Mv.zero)) := by rw [← hwa]; exact Blk.new_at (by simp)
  have BE : Hid (Below w.heap.size w wa) := by rw [← hwa]; exact (((Below.refl _ _).alloc (Nat.le_refl _) _).alloc (by simp) _).alloc (by simp; omega) _
  have HWA := Lib.hid hwa
  clear hwa
  go_enter Tryz.func11, Tryz.ntmps11
  go_upto_region 1 with fail
  change Code.wp _ _ _ _ (((w.alloc (Obj.cells (marr ma ⟨sp, lo, hi, fr, tt, 5, cp, ch⟩) 37)).alloc (Obj.cells (rarr a R) 27)).alloc (Obj.cells (marr MA.zero Mv.zero) 37))
  rw [HWA.out]
  clear HWA
  have q5 : wa.cell? ⟨w.heap.size, 5, none⟩ = some (.int .i64 5) := B0.out.cell 5
  go_wp2_with (refine wpList_store_row rfl 37 _ _ rfl (w.heap.size + 2) (marr MA.zero Mv.zero) rfl rfl 37 _ B2.out (by rw [sizeM]; rfl) rfl (marr_all _ _) ?_)
  refine bodyPost_ret (results_mv rfl _ (w.heap.size + 2) rfl (.int .i64 23) rfl _ MA.zero Mv.zero (Blk.row B2.out _)) rfl ?_
  exact ⟨rfl, below_row BE.out (by omega) _⟩

set_option maxRecDepth 100000 in
set_option maxHeartbeats 2000000 in
theorem abort_no (M : Mv) (ma : MA) (w : World) (hst : M.st = 5) : Calls Tryz.prog 20 #[mval ma M] w
    fun e w' => e = .returned (.tuple #[mval MA.zero Mv.zero, .int .i64 23]) ∧ Below w.heap.size w w' := by
  obtain ⟨sp, lo, hi, fr, tt, st, cp, ch⟩ := M
  simp only at hst
  subst hst
  obtain ⟨wa, hwa⟩ : ∃ wa, (w.alloc (Obj.cells (marr ma ⟨sp, lo, hi, fr, tt, 5, cp, ch⟩) 37)).alloc (Obj.cells (marr MA.zero Mv.zero) 37) = wa := ⟨_, rfl⟩
  have B0 : Hid (Blk wa w.heap.size 37 (marr ma ⟨sp, lo, hi, fr, tt, 5, cp, ch⟩)) := by rw [← hwa]; exact (Blk.new_at rfl).alloc _
  have B2 : Hid (Blk wa (w.heap.size + 1) 37 (marr MA.zero Mv.zero)) := by rw [← hwa]; exact Blk.new_at (by simp)
  have BE : Hid (Below w.heap.size w wa) := by rw [← hwa]; exact ((Below.refl _ _).alloc (Nat.le_refl _) _).alloc (by simp) _
  have HWA := Lib.hid hwa
  clear hwa
  go_enter Tryz.func20, Tryz.ntmps20
  go_upto_region 1 with fail
  change Code.wp _ _ _ _ ((w.alloc (Obj.cells (marr ma ⟨sp, lo, hi, fr, tt, 5, cp, ch⟩) 37)).alloc (Obj.cells (marr MA.zero Mv.zero) 37))
  rw [HWA.out]
  clear HWA
  have q5 : wa.cell? ⟨w.heap.size, 5, none⟩ = some (.int .i64 5) := B0.out.cell 5
  go_wp2_with (refine wpList_store_row rfl 37 _ _ rfl (w.heap.size + 1) (marr MA.zero Mv.zero) rfl rfl 37 _ B2.out (by rw [sizeM]; rfl) rfl (marr_all _ _) ?_)
  refine bodyPost_ret (results_mv rfl _ (w.heap.size + 1) rfl (.int .i64 23) rfl _ MA.zero Mv.zero (Blk.row B2.out _)) rfl ?_
  exact ⟨rfl, below_row BE.out (by omega) _⟩
set_option maxRecDepth 100000 in
set_option maxHeartbeats 2000000 in
theorem abort_any (M : Mv) (ma : MA) (w : World) (h4 : M.st ≠ 4) (h5 : M.st ≠ 5) : Calls Tryz.prog 20 #[mval ma M] w
    fun e w' => e = .returned (.tuple #[mval MA.zero ⟨M.sp, M.lo, M.hi, M.fr, M.tt, 5, [], []⟩, .int .i64 0]) ∧ Below w.heap.size w w' := by
  obtain ⟨CA, cn, cc, HA, hn, hc2⟩ := ma
  obtain ⟨sp, lo, hi, fr, tt, st, cp, ch⟩ := M
  simp only at h4 h5 ⊢
  obtain ⟨wa, hwa⟩ : ∃ wa, (w.alloc (Obj.cells (marr ⟨CA, cn, cc, HA, hn, hc2⟩ ⟨sp, lo, hi, fr, tt, st, cp, ch⟩) 37)).alloc (Obj.cells (marr MA.zero Mv.zero) 37) = wa := ⟨_, rfl⟩
  have B0 : Hid (Blk wa w.heap.size 37 (marr ⟨CA, cn, cc, HA, hn, hc2⟩ ⟨sp, lo, hi, fr, tt, st, cp, ch⟩)) := by rw [← hwa]; exact (Blk.new_at rfl).alloc _
  have B2 : Hid (Blk wa (w.heap.size + 1) 37 (marr MA.zero Mv.zero)) := by rw [← hwa]; exact Blk.new_at (by simp)
  have BE : Hid (Below w.heap.size w wa) := by rw [← hwa]; exact ((Below.refl _ _).alloc (Nat.le_refl _) _).alloc (by simp) _
  have HWA := Lib.hid hwa
  clear hwa
  go_enter Tryz.func20, Tryz.ntmps20
  go_upto_region 1 with fail
  change Code.wp _ _ _ _ ((w.alloc (Obj.cells (marr ⟨CA, cn, cc, HA, hn, hc2⟩ ⟨sp, lo, hi, fr, tt, st, cp, ch⟩) 37)).alloc (Obj.cells (marr MA.zero Mv.zero) 37))
  rw [HWA.out]
  clear HWA
  have q5 : wa.cell? ⟨w.heap.size, 5, none⟩ = some (.int .i64 st) := B0.out.cell 5
  have s4 : (st == 4) = false := by simpa using h4
  have s5 : (st == 5) = false := by simpa using h5
  go_upto_region 3 with fail
  clear q5 s4 s5 h4 h5
  have q6 := B0.out.cell 6
  have z6 := B0.out.frozen 6
  simp at q6
  go_upto_region 4 with fail
  change Code.wp _ _ _ _ (wa.setCell ⟨w.heap.size, 6, none⟩ (.slice none 0 0))
  clear q6 z6
  have C0 : Hid (Blk (wa.setCell ⟨w.heap.size, 6, none⟩ (.slice none 0 0)) w.heap.size 37 (marr ⟨none, 0, 0, HA, hn, hc2⟩ ⟨sp, lo, hi, fr, tt, st, cp, ch⟩)) := B0.out.set_ 6 _
  have C2 := Lib.hid (B2.out.far (p := ⟨w.heap.size, 6, none⟩) (by show w.heap.size + 1 ≠ w.heap.size; omega) (.slice none 0 0))
  have CE := Lib.hid (BE.out.setCell (p := ⟨w.heap.size, 6, none⟩) (Nat.le_refl _) (.slice none 0 0))
  clear B0 B2 BE
  generalize wa.setCell ⟨w.heap.size, 6, none⟩ (.slice none 0 0) = wb at *
  have q7 := C0.out.cell 7
  have z7 := C0.out.frozen 7
  simp at q7
  go_upto_region 5 with fail
  change Code.wp _ _ _ _ (wb.setCell ⟨w.heap.size, 7, none⟩ (.slice none 0 0))
  clear q7 z7
  have D0 : Hid (Blk (wb.setCell ⟨w.heap.size, 7, none⟩ (.slice none 0 0)) w.heap.size 37 (marr MA.zero ⟨sp, lo, hi, fr, tt, st, [], []⟩)) := C0.out.set_ 7 _
  have D2 := Lib.hid (C2.out.far (p := ⟨w.heap.size, 7, none⟩) (by show w.heap.size + 1 ≠ w.heap.size; omega) (.slice none 0 0))
  have DE := Lib.hid (CE.out.setCell (p := ⟨w.heap.size, 7, none⟩) (Nat.le_refl _) (.slice none 0 0))
  clear C0 C2 CE
  generalize wb.setCell ⟨w.heap.size, 7, none⟩ (.slice none 0 0) = wc at *
  have q5 := D0.out.cell 5
  have z5 := D0.out.frozen 5
  simp at q5
  go_upto_region 6 with fail
  change Code.wp _ _ _ _ (wc.setCell ⟨w.heap.size, 5, none⟩ (.int .i64 5))
  clear q5 z5
  have E0 : Hid (Blk (wc.setCell ⟨w.heap.size, 5, none⟩ (.int .i64 5)) w.heap.size 37 (marr MA.zero ⟨sp, lo, hi, fr, tt, 5, [], []⟩)) := D0.out.set_ 5 _
  have E2 := Lib.hid (D2.out.far (p := ⟨w.heap.size, 5, none⟩) (by show w.heap.size + 1 ≠ w.heap.size; omega) (.int .i64 5))
  have EE := Lib.hid (DE.out.setCell (p := ⟨w.heap.size, 5, none⟩) (Nat.le_refl _) (.int .i64 5))
  clear D0 D2 DE
  generalize wc.setCell ⟨w.heap.size, 5, none⟩ (.int .i64 5) = wd at *
  go_wp2_with (first | (refine wpList_load_row rfl 37 _ rfl (w.heap.size) rfl _ _ _ _ E0.out Tryz.underlying37 rfl (by rw [sizeM]; rfl) ?_) | (refine wpList_store_row rfl 37 _ _ rfl (w.heap.size + 1) (marr MA.zero ⟨sp, lo, hi, fr, tt, 5, [], []⟩) rfl rfl 37 _ E2.out (by rw [sizeM]; rfl) rfl (marr_all _ _) ?_))
  refine bodyPost_ret (results_mv rfl _ (w.heap.size + 1) rfl (.int .i64 0) rfl _ MA.zero ⟨sp, lo, hi, fr, tt, 5, [], []⟩ (Blk.row E2.out _)) rfl ?_
  exact ⟨rfl, below_row EE.out (by omega) _⟩

end Go.Proofs.YtlmmgjgkmbmgpaaGreatDoor



/- migrate.Orphans. -/
namespace Go.Proofs.YtlmmgjgkmbmgpaaGreatDoor
open Go.RowKit
set_option linter.unusedSimpArgs false

/-- m is l, sorted stably by the writes' keys -/
def StW (l m : List Wt) : Prop := ∃ S, Sorted (fun p q : Wt => cmpV p.key q.key) (tagFrom 0 l) S ∧ S.map Prod.fst = m
theorem tagFrom_mapW {α β : Type} (f : α → β) : ∀ (l : List α) (n : Nat), tagFrom n (l.map f) = (tagFrom n l).map fun p => (f p.1, p.2)
  | [], _ => rfl
  | a :: r, n => by simp [tagFrom, tagFrom_mapW f r]
theorem StW.of {ps : List PW} {S : List (PW × Nat)} (h : Sorted (fun p q : PW => cmpV p.2.key q.2.key) (tagFrom 0 ps) S) : StW (ps.map Prod.snd) ((S.map Prod.fst).map Prod.snd) := by
  refine ⟨S.map fun p => (p.1.2, p.2), ⟨?_, ?_⟩, ?_⟩
  · rw [tagFrom_mapW]
    exact h.perm.map _
  · rw [List.pairwise_map]
    exact h.ord
  · rw [List.map_map, List.map_map]
    rfl
theorem StW.perm {l m : List Wt} (h : StW l m) : m.Perm l := by
  obtain ⟨S, hs, rfl⟩ := h
  have h1 := hs.perm.map Prod.fst
  rwa [tagFrom_map] at h1
noncomputable def remL (R : Ro) (sp lo hi : ByteArray) (l : List Val) : List Wt := (l.filter (insD R lo hi)).map fun x => remW sp (idV x)
theorem remL_snoc (R : Ro) (sp lo hi : ByteArray) (l : List Val) (x : Val) : remL R sp lo hi (l ++ [x]) = remL R sp lo hi l ++ (if insD R lo hi x = true then [remW sp (idV x)] else []) := by
  unfold remL
  rw [List.filter_append, List.map_append]
  congr 1
  cases h : insD R lo hi x <;> simp [h]

set_option maxRecDepth 100000 in
set_option maxHeartbeats 2000000 in
theorem sort0_any (A : Option Addr) (c : Nat) (w : World) : Calls Tryz.prog 52 #[.slice A 0 c, .func (.func 53) #[] #[]] w fun e w' => e = .returned (.tuple #[]) ∧ w' = w := by
  have HI : Hid (∀ A : Option Addr, Calls Tryz.prog 131 #[.slice A 0 c, .int .i64 0, .int .i64 0, .func (.func 53) #[] #[]] w fun e w' => e = .returned (.tuple #[]) ∧ w' = w) := Lib.hid fun A => by
    go_enter Tryz.func131, Tryz.ntmps131
    go_wp2_with fail
    go_loopw [8] (fun v8 wr => v8 = .int .i64 1 ∧ wr = w) (fun _ _ => 0)
    case atStart => exact ⟨rfl, rfl⟩
    case round =>
      obtain ⟨rfl, rfl⟩ := hrel
      go_wp2_with fail
      go_end0
      exact ⟨rfl, rfl⟩
  have HS : Hid (∀ A : Option Addr, Calls Tryz.prog 92 #[.slice A 0 c, .int .i64 0, .func (.func 53) #[] #[]] w fun e w' => e = .returned (.tuple #[]) ∧ w' = w) := Lib.hid fun A => by
    go_enter Tryz.func92, Tryz.ntmps92
    go_wp2_with fail
    go_loopw [7, 8] (fun v7 v8 wr => v7 = .int .i64 0 ∧ v8 = .int .i64 20 ∧ wr = w) (fun _ _ _ => 0)
    case atStart => exact ⟨rfl, rfl, rfl⟩
    case round =>
      obtain ⟨rfl, rfl, rfl⟩ := hrel
      go_wp2_with fail
      refine (HI.out A).mono ?_
      rintro e w1 ⟨rfl, rfl⟩
      go_wp2_with fail
      go_loopw [6] (fun v6 wr => v6 = .int .i64 20 ∧ wr = w1) (fun _ _ => 0)
      case atStart => exact ⟨rfl, rfl⟩
      case round =>
        obtain ⟨rfl, rfl⟩ := hrel
        go_wp2_with fail
        go_end0
        exact ⟨rfl, rfl⟩
  go_enter Tryz.func52, Tryz.ntmps52
  go_wp2_with fail
  refine (HS.out A).mono ?_
  rintro e w1 ⟨rfl, rfl⟩
  go_wp2_with fail
  go_end0
  exact ⟨rfl, rfl⟩

/-- Orphans is not possible yet -/
def NoOrph (w : World) (e : Ending) (w' : World) : Prop := e = .returned (.slice none 0 0) ∧ Below w.heap.size w w'
set_option maxRecDepth 100000 in
set_option maxHeartbeats 1000000 in
theorem orph_no (M : Mv) (ma : MA) (R : Ro) (a : RA) (DA : Option Addr) (dn dc : Nat) (w : World) (h4 : M.st ≠ 4) (h5 : M.st ≠ 5) :
    Calls Tryz.prog 21 #[mval ma M, rval a R, .slice DA dn dc] w (NoOrph w) := by
  obtain ⟨wa, hwa⟩ : ∃ wa, (w.alloc (Obj.cells (marr ma M) 37)).alloc (Obj.cells (rarr a R) 27) = wa := ⟨_, rfl⟩
  have B0 : Hid (Blk wa w.heap.size 37 (marr ma M)) := by rw [← hwa]; exact (Blk.new_at rfl).alloc _
  have BE : Hid (Below w.heap.size w wa) := by rw [← hwa]; exact ((Below.refl _ _).alloc (Nat.le_refl _) _).alloc (by simp) _
  have HWA := Lib.hid hwa
  clear hwa
  go_enter Tryz.func21, Tryz.ntmps21
  go_upto_region 1 with fail
  change Code.wp _ _ _ _ ((w.alloc (Obj.cells (marr ma M) 37)).alloc (Obj.cells (rarr a R) 27))
  rw [HWA.out]
  clear HWA
  have q5 : wa.cell? ⟨w.heap.size, 5, none⟩ = some (.int .i64 M.st) := B0.out.cell 5
  have s4 : (M.st != 4) = true := by simpa using h4
  have s5 : (M.st != 5) = true := by simpa using h5
  go_wp2_with fail
  go_ret
  exact ⟨rfl, BE.out⟩

def OrphOk (R : Ro) (M : Mv) (L : List Val) (w : World) (e : Ending) (w' : World) : Prop :=
  ∃ (A : Option Addr) (n c : Nat) (ps : List PW), e = .returned (.slice A n c) ∧ StW (remL R M.sp M.lo M.hi L) (ps.map Prod.snd) ∧ WS (fun _ => True) w' A n c ps ∧ Below w.heap.size w w'
theorem RW1.but {w w' : World} {g : Nat} {v : Value} {c : WC} {x : Wt} (h : RW1 (fun b => v.ownBlock ≠ some b) w c x) (hv : v.ownBlock = some g) (hb : But g w w') : RW1 (fun _ => True) w' c x :=
  h.keepG fun b hF hl => ⟨trivial, hb.block b hl fun e => hF (by rw [e]; exact hv)⟩
theorem tagFrom_of (ps : List PW) (k : Nat) : (tagFrom k ps).map Prod.fst = ps := tagFrom_map ps k
theorem flat_tags (L : List (PW × Nat)) : flat recTW L = flat recW (L.map Prod.fst) := by
  unfold flat
  rw [List.flatMap_map]
  rfl
theorem tagFrom_lenW (ps : List PW) : ∀ k, (tagFrom k ps).length = ps.length := by
  induction ps with
  | nil => intro k; rfl
  | cons a r ih => intro k; simp [tagFrom, ih]

set_option maxRecDepth 100000 in
set_option maxHeartbeats 8000000 in
theorem orph_any (M : Mv) (ma : MA) (R : Ro) (a : RA) (ds : List PV) (DA : Option Addr) (dn dc : Nat) (w : World) (hT : Tabs w) (h : RR w a R) (h8 : R.ks.length ≤ 8) (hd : SL (fun _ => True) w DA dn dc ds) (h20 : dn ≤ 20) (hsp : M.sp.size ≤ reach) (h4 : M.st = 4) :
    Calls Tryz.prog 21 #[mval ma M, rval a R, .slice DA dn dc] w (OrphOk R M (ds.map Prod.snd) w) := by
  obtain ⟨j0, hj0, hw0, hw1, hw2⟩ := info_parts info_write
  have HT := Lib.hid hT
  have HR := Lib.hid h
  have H8 := Lib.hid h8
  have HD := Lib.hid hd
  have HSP := Lib.hid hsp
  have HDL : Hid (dn = ds.length) := hd.sr.ln
  clear hT h h8 hd hsp
  obtain ⟨wa, hwa⟩ : ∃ wa, (w.alloc (Obj.cells (marr ma M) 37)).alloc (Obj.cells (rarr a R) 27) = wa := ⟨_, rfl⟩
  have B0 : Hid (Blk wa w.heap.size 37 (marr ma M)) := by rw [← hwa]; exact (Blk.new_at rfl).alloc _
  have B1 : Hid (Blk wa (w.heap.size + 1) 27 (rarr a R)) := by rw [← hwa]; exact Blk.new_at (by simp)
  have BE : Hid (Below w.heap.size w wa) := by rw [← hwa]; exact ((Below.refl _ _).alloc (Nat.le_refl _) _).alloc (by simp) _
  have HWA := Lib.hid hwa
  clear hwa
  go_enter Tryz.func21, Tryz.ntmps21
  go_upto_region 1 with fail
  change Code.wp _ _ _ _ ((w.alloc (Obj.cells (marr ma M) 37)).alloc (Obj.cells (rarr a R) 27))
  rw [HWA.out]
  clear HWA
  have q5 : wa.cell? ⟨w.heap.size, 5, none⟩ = some (.int .i64 4) := by rw [← h4]; exact B0.out.cell 5
  clear h4
  go_wp2_with fail
  clear q5
  go_loopw [7, 22] (fun u7 u22 wr => ∃ (i : Nat) (ps : List PW), i ≤ dn ∧ u22 = .int .i64 i ∧ ps.map Prod.snd = remL R M.sp M.lo M.hi ((ds.map Prod.snd).take i) ∧ ps.length ≤ i ∧ WsI wa.heap.size wa u7 ps wr) (fun _ u22 _ => dn - (intOf u22).toNat)
  case atStart => exact ⟨0, [], Nat.zero_le _, rfl, rfl, Nat.le_refl _, WsI.start wa⟩
  case round =>
    obtain ⟨i, ps, hile, rfl, hps, hpl, hvs⟩ := hrel
    have HPS := Lib.hid hps
    have VS := Lib.hid hvs
    clear hps hvs
    by_cases hlt : i < dn
    · obtain ⟨p, hp⟩ : ∃ p, ds[i]? = some p := ⟨_, List.getElem?_eq_getElem (by have := HDL.out; omega)⟩
      have HPi := Lib.hid hp
      have HBR := Lib.hid (BE.out.step' VS.out.bel)
      obtain ⟨b, off, rfl, _, hu, hr⟩ := (HD.out.step HBR.out).vat hp
      have HPR := Lib.hid hr
      obtain ⟨a0, a1, a2, a3, a4⟩ := hu
      have i0' : (0 : Int) ≤ (i : Int) := by omega
      have i1' : (i : Int) < (dn : Int) := by omega
      clear hp hr
      go_upto_region 7 with fail
      change Code.wp _ _ _ _ (wr.alloc (Obj.cells p.1.arr 46))
      have G9 : Hid (Blk (wr.alloc (Obj.cells p.1.arr 46)) wr.heap.size 46 p.1.arr) := Blk.new_at rfl
      have V1 := Lib.hid (VS.out.step ((Below.refl wr.heap.size wr).alloc (Nat.le_refl _) (Obj.cells p.1.arr 46)))
      have PR1 : Hid (RW (wr.alloc (Obj.cells p.1.arr 46)) p.1 p.2) := HPR.out.alloc _
      clear VS HPR a0 a1 a2 a3 a4 HBR
      generalize wr.alloc (Obj.cells p.1.arr 46) = wb at *
      generalize wr.heap.size = g9 at *
      obtain ⟨b0, b1, b2, b3, b4⟩ := VAt.of_blk G9.out
      simp only [Nat.zero_add] at b0 b1 b2 b3 b4
      have BM1 := Lib.hid (B0.out.step V1.out.bel)
      obtain ⟨q0, q1, q2, q3, q4, q5, qz⟩ := blk_ro (B1.out.step V1.out.bel)
      obtain ⟨ib, hib⟩ : ∃ ib, insD R M.lo M.hi p.2 = ib := ⟨_, rfl⟩
      have HIN := inside_any M ma R a p.2 p.1 wb (HT.out.step (BE.out.step' V1.out.bel)) (HR.out.step (BE.out.step' V1.out.bel)) PR1.out H8.out
      rw [hib] at HIN
      have HIN2 := Lib.hid HIN
      have HTK : Hid (remL R M.sp M.lo M.hi ((ds.map Prod.snd).take (i + 1)) = ps.map Prod.snd ++ (if ib = true then [remW M.sp (idV p.2)] else [])) := by
        rw [Hid, take_snoc' (show (ds.map Prod.snd)[i]? = some p.2 by rw [List.getElem?_map, HPi.out]; rfl), remL_snoc, ← HPS.out, hib]
      clear hib HIN
      go_wp2_with (refine wpList_load_row rfl 37 _ rfl w.heap.size rfl _ _ _ _ BM1.out Tryz.underlying37 rfl (by rw [sizeM]; rfl) ?_)
      refine HIN2.out.mono ?_
      rintro e wc ⟨rfl, hb⟩
      have V2 := Lib.hid (V1.out.step hb)
      have G2 := Lib.hid (G9.out.step hb)
      have PR2 := Lib.hid (PR1.out.step hb)
      clear hb V1 G9 PR1 BM1 HIN2 b0 b1 b2 b3 b4 q0 q1 q2 q3 q4 q5 qz
      cases ib
      · have HT2 : Hid (remL R M.sp M.lo M.hi ((ds.map Prod.snd).take (i + 1)) = ps.map Prod.snd) := HTK.out.trans (List.append_nil _)
        go_wp2_with fail
        go_roundw
        case rel => exact ⟨i + 1, ps, by omega, by go_num, HT2.out.symm, by omega, V2.out⟩
        case measure => simp [intOf]; omega
      · have HT2 : Hid (remL R M.sp M.lo M.hi ((ds.map Prod.snd).take (i + 1)) = ps.map Prod.snd ++ [remW M.sp (idV p.2)]) := HTK.out
        obtain ⟨b0, b1, b2, b3, b4⟩ := VAt.of_blk G2.out
        simp only [Nat.zero_add] at b0 b1 b2 b3 b4
        have HG := Lib.hid (get_any p.2 p.1 idB wc PR2.out)
        go_wp2_with fail
        refine HG.out.mono ?_
        rintro e wd ⟨c, rfl, hr, hb⟩
        have V3 := Lib.hid (V2.out.step hb)
        have RC : Hid (RW wd c (idV p.2)) := hr.mono fun _ _ => trivial
        clear hr hb V2 HG b0 b1 b2 b3 b4
        go_upto_region 9 with fail
        change Code.wp _ _ _ _ (wd.alloc (Obj.cells c.arr 46))
        have G3 : Hid (Blk (wd.alloc (Obj.cells c.arr 46)) wd.heap.size 46 c.arr) := Blk.new_at rfl
        have V4 := Lib.hid (V3.out.step ((Below.refl wd.heap.size wd).alloc (Nat.le_refl _) (Obj.cells c.arr 46)))
        have RC2 : Hid (RW (wd.alloc (Obj.cells c.arr 46)) c (idV p.2)) := RC.out.alloc _
        clear V3 RC
        generalize wd.alloc (Obj.cells c.arr 46) = we at *
        generalize wd.heap.size = g10 at *
        obtain ⟨b0, b1, b2, b3, b4⟩ := VAt.of_blk G3.out
        simp only [Nat.zero_add] at b0 b1 b2 b3 b4
        have BM1 := Lib.hid (B0.out.step V4.out.bel)
        have HRM := Lib.hid (remove_any M ma (idV p.2) c we HSP.out RC2.out)
        go_wp2_with (refine wpList_load_row rfl 37 _ rfl w.heap.size rfl _ _ _ _ BM1.out Tryz.underlying37 rfl (by rw [sizeM]; rfl) ?_)
        refine HRM.out.mono ?_
        rintro e wf ⟨wc1, rfl, hr, hb⟩
        have V5 := Lib.hid (V4.out.step hb)
        have RP : Hid (RW1 (fun b => Value.ownBlock u7 ≠ some b) wf wc1 (remW M.sp (idV p.2))) := hr.mono fun b hb2 e => by have := own_lt V4.out.own e; omega
        clear hr hb V4 RC2 BM1 HRM b0 b1 b2 b3 b4 G3
        have V6 := Lib.hid (V5.out.step ((Below.refl wf.heap.size wf).alloc (Nat.le_refl _) (Obj.cells (recC78 wc1).toArray 68)))
        have RP2 := Lib.hid (RP.out.alloc (Obj.cells (recC78 wc1).toArray 68))
        have N2 : Hid (Blk (wf.alloc (Obj.cells (recC78 wc1).toArray 68)) wf.heap.size 68 (recC78 wc1).toArray) := Blk.new_at rfl
        have HLO6 : Hid (wa.heap.size ≤ (wf.alloc (Obj.cells (recC78 wc1).toArray 68)).heap.size) := V6.out.bel.size
        have hpl3 : ps.length ≤ 20 := by omega
        go_wp2_with (first
          | (refine wpList_buildSlice rfl 29 68 1 _ rfl (recC78 wc1).toArray j0 _ Tryz.underlying29 hj0 hw0 (by rw [hw1]; decide) (by rw [hw1]; decide) (by rw [hw1]; exact build_write rfl) ?_)
          | (at_builtin; refine wpList_append_any _ rfl _ _ 29 rfl wa.heap.size 68 j0 _ 78 1168 Tryz.underlying29 hj0 hw0 hw1 hw2 rfl (by decide) u7 ps.length (flat recW ps) rfl V6.out.own _ _ 1 _ (recC78 wc1) rfl (reads_one N2.out N2.out.lt) (recC78_one wc1) (by unfold maxLen; omega) (by omega) HLO6.out ?_))
        intro v' wh hown hgr hat
        have HI := Lib.hid (V6.out.add (p := (wc1, remW M.sp (idV p.2))) RP2.out rfl hown hgr (by rw [size_alloc]; exact hat))
        clear hown hgr hat V5 V6 RP RP2 N2 HLO6
        go_wp2_with fail
        go_roundw
        case rel => exact ⟨i + 1, ps ++ [(wc1, remW M.sp (idV p.2))], by omega, by go_num, by rw [List.map_append]; exact HT2.out.symm, by simp; omega, HI.out⟩
        case measure => simp [intOf]; omega
    · have hik : dn = i := by omega
      subst hik
      have HALL : Hid (ps.map Prod.snd = remL R M.sp M.lo M.hi (ds.map Prod.snd)) := by
        have := HPS.out
        rwa [List.take_of_length_le (by rw [List.length_map, HDL.out]; exact Nat.le_refl _)] at this
      have hpl2 : ps.length ≤ 20 := by omega
      have HBR := Lib.hid (BE.out.step' VS.out.bel)
      by_cases h0 : ps.length = 0
      · have hps0 : ps = [] := List.eq_nil_of_length_eq_zero h0
        subst hps0
        obtain ⟨A0, c0, hu7, hc0⟩ := own_slice VS.out.own
        subst hu7
        have HST : Hid (StW (remL R M.sp M.lo M.hi (ds.map Prod.snd)) []) := by rw [Hid, ← HALL.out]; exact ⟨[], Sorted.nil, rfl⟩
        clear VS h0
        go_wp2_with fail
        refine (sort0_any A0 c0 wr).mono ?_
        rintro e w1 ⟨rfl, rfl⟩
        go_wp2_with fail
        go_ret
        exact ⟨A0, 0, c0, [], rfl, HST.out, ⟨SR.nil, by decide, fun p hp => by simp at hp⟩, HBR.out⟩
      · obtain ⟨g, cap, cur, hu7, hge, hcur, hncap, hcm, hcs, hct⟩ : ∃ g cap cur, u7 = .slice (some ⟨g, 0, none⟩) ps.length cap ∧ wa.heap.size ≤ g ∧ wr.heap[g]? = some (.cells cur 68 (0, 0)) ∧ ps.length ≤ cap ∧ cap ≤ maxLen ∧ cur.size = cap * 78 ∧ cur.toList.take (ps.length * 78) = flat recW ps := by
          rcases VS.out.own.2 with ⟨_, h⟩ | h
          · exact absurd h h0
          · exact h
        have HRV := Lib.hid VS.out.rv
        have HOB : Hid (u7.ownBlock = some g) := by rw [Hid, hu7]; rfl
        have HROW : Hid (SRowW wr g (tagFrom 0 ps)) := by
          refine ⟨cur.toList.drop (ps.length * 78), ?_⟩
          rw [flat_tags, tagFrom_of, ← hct, List.take_append_drop]
          exact hcur
        have HCM : Hid (CmpOkW g wr (tagFrom 0 ps)) := Lib.hid fun x y hx hy w2 hb => by
          have hx2 : x.1 ∈ ps := by have := List.mem_map_of_mem (f := Prod.fst) hx; rwa [tagFrom_of] at this
          have hy2 : y.1 ∈ ps := by have := List.mem_map_of_mem (f := Prod.fst) hy; rwa [tagFrom_of] at this
          exact orph1_any x.1 y.1 w2 ((HRV.out x.1 hx2).but HOB.out hb).key ((HRV.out y.1 hy2).but HOB.out hb).key
        have HSO := Lib.hid (sortStableW_any (tagFrom 0 ps) g ps.length cap wr HROW.out (tagFrom_lenW ps 0).symm (by omega) (tagFrom_tagged ps 0) HCM.out)
        have HGE := Lib.hid hge
        have HOB2 := HOB
        clear HOB
        have HU := Lib.hid hu7
        have HRV2 : Hid (∀ p ∈ ps, ∀ w2, But g wr w2 → RW1 (fun _ => True) w2 p.1 p.2) := Lib.hid fun p hp w2 hb => (HRV.out p hp).but HOB2.out hb
        clear VS h0 hge hcur hcs hct HROW HCM HRV HOB2 hcm
        have hu8 := HU.out
        clear HU hu7
        subst hu8
        go_wp2_with fail
        refine HSO.out.mono ?_
        rintro e w1 ⟨rfl, S, hS, hI⟩
        rw [List.nil_append, List.append_nil] at hI
        have HI := Lib.hid hI
        have HSS := Lib.hid hS
        clear hS hI HSO
        go_wp2_with fail
        go_ret
        have hl : S.length = ps.length := by rw [HSS.out.perm.length_eq, tagFrom_lenW]
        have hmem : ∀ p ∈ S.map Prod.fst, p ∈ ps := fun p hp => by
          have h1 := (HSS.out.perm.map Prod.fst).mem_iff.1 hp
          rwa [tagFrom_of] at h1
        refine ⟨some ⟨g, 0, none⟩, ps.length, cap, S.map Prod.fst, rfl, ?_, ⟨⟨by rw [List.length_map, hl], hncap, fun _ => ⟨g, 0, rfl, ?_, fun i p hi j v hj => ?_⟩⟩, by unfold reach; omega, fun p hp => HRV2.out p (hmem p hp) w1 HI.out.but⟩, ?_⟩
        · rw [← HALL.out]
          exact StW.of HSS.out
        · have := HI.out.row
          obtain ⟨X, hX⟩ := this
          exact hX.lt
        · rw [List.getElem?_map] at hi
          obtain ⟨q, hq, rfl⟩ := Option.map_eq_some_iff.1 hi
          rw [Nat.zero_add]
          exact SRowW.range HI.out.row hq j v hj
        · exact HBR.out.trans (HI.out.but.below HBR.out.size (by have := HGE.out; have := BE.out.size; omega))

end Go.Proofs.YtlmmgjgkmbmgpaaGreatDoor


