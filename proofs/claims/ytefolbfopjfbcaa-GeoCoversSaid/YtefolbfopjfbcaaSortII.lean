/- The library's insertion sort at one element type. (Printed by gen_sort.py I.) -/
import Derived.Test.YtefolbfopjfbcaaSortPure
import Derived.Test.YtefolbfopjfbcaaGeoGap
import Derived.Test.YtefolbfopjfbcaaVal
import Derived.IntWalk
namespace Go.Proofs.Ytefolbfopjfbcaa
open Go.RowKit
set_option linter.unusedSectionVars false
variable [Inhabited Ctx]

theorem wrap_i64' {a : Int} (h1 : -9223372036854775808 ≤ a) (h2 : a ≤ 9223372036854775807) : IntKind.i64.wrap a = a := IntWalk.i64_in _ ⟨h1, h2⟩
def recTI (e : Int × Nat) : List Value := recI e.1
theorem recTI_length (e : Int × Nat) : (recTI e).length = 1 := recI_length e.1
/-- block g begins with the row of the elements L -/
def SRowI (w : World) (g : Nat) (L : List (Int × Nat)) : Prop := ∃ R : List Value, Blk w g 3 (flat recTI L ++ R).toArray
theorem setList_app {α : Type} : ∀ (vs l R : List α) (k : Nat), k + vs.length ≤ l.length → setList (l ++ R) k vs = setList l k vs ++ R := by
  intro vs
  induction vs with
  | nil => intro l R k _; rfl
  | cons v vs ih =>
    intro l R k h
    simp only [List.length_cons] at h
    rw [setList, setList, List.set_append_left _ _ (by omega), ih _ _ _ (by rw [List.length_set]; omega)]
abbrev aggI (p : Int × Nat) : Value := .int .i64 p.1
section
variable {w w' : World} {g : Nat} {L : List (Int × Nat)}
theorem SRowI.cell (h : SRowI w g L) {j : Nat} {p : Int × Nat} (hj : L[j]? = some p) (i : Nat) (v : Value) (hi : (recTI p)[i]? = some v) : w.cell? ⟨g, j + i, none⟩ = some v := by
  rw [show j + i = j * 1 + i by omega]
  obtain ⟨R, h⟩ := h
  have hf := flat_get recTI_length hj hi
  rw [Blk.cell h (j * 1 + i), List.getElem?_toArray, List.getElem?_append_left (List.getElem?_eq_some_iff.1 hf).1]
  exact hf
theorem SRowI.step (h : SRowI w g L) (hb : Below w.heap.size w w') : SRowI w' g L := by obtain ⟨R, h⟩ := h; exact ⟨R, Blk.step h hb⟩
theorem SRowI.drew (h : SRowI w g L) : SRowI w.drew g L := by obtain ⟨R, h⟩ := h; exact ⟨R, Blk.drew h⟩
theorem SRowI.frozen (h : SRowI w g L) (i : Nat) : w.frozen? ⟨g, i, none⟩ = false := by obtain ⟨R, h⟩ := h; exact Blk.frozen h i
theorem SRowI.lt (h : SRowI w g L) : g < w.heap.size := by obtain ⟨R, h⟩ := h; exact Blk.lt h
theorem SRowI.put (h : SRowI w g L) {j : Nat} (hj : j < L.length) (p : Int × Nat) : SRowI (w.setCell ⟨g, j, none⟩ (.int .i64 p.1)) g (L.set j p) := by
  obtain ⟨R, h⟩ := h
  have hl := flat_length recTI_length L
  have e : flat recTI (L.set j p) ++ R = setList (flat recTI L ++ R) (j) (recTI p) := by
    rw [flat_set recTI_length L j p hj, Nat.mul_one, setList_app _ _ _ _ (by rw [recTI_length]; omega)]
  refine ⟨R, ?_⟩
  rw [e]
  clear e hl
  generalize flat recTI L ++ R = X at h ⊢
  have := Blk.set_ h (j) (.int .i64 p.1)
  rw [show (setList X (j) (recTI p)).toArray = (X.toArray.setIfInBounds (j) (.int .i64 p.1)) from by simp [setList, recTI, recI]]
  exact this
end

theorem swap_list {α : Type} (A S3 S2 E : List α) (x y : α) : ((A ++ ((S3 ++ [y]) ++ x :: S2) ++ E).set (A.length + (S3.length + 1)) y).set (A.length + (S3.length + 1) - 1) x = A ++ (S3 ++ x :: y :: S2) ++ E := by
  rw [show A.length + (S3.length + 1) - 1 = A.length + S3.length by omega]
  simp

/-- the comparison's contract at the elements of a row -/
def CmpOkI (g : Nat) (w : World) (U : List (Int × Nat)) : Prop := ∀ (x y : Int × Nat), x ∈ U → y ∈ U → ∀ wr, But g w wr →
    Calls Try.prog 48 #[aggI x, aggI y, .pointer (some ⟨(default : Ctx).mc, 0, none⟩)] wr fun e w' => e = .returned (.int .i64 (gapC x.1 y.1)) ∧ Below wr.heap.size wr w'
structure IsI (g : Nat) (w : World) (L : List (Int × Nat)) (wr : World) : Prop where
  row : SRowI wr g L
  but : But g w wr
theorem IsI.step {g : Nat} {w wr w' : World} {L : List (Int × Nat)} (h : IsI g w L wr) (hb : Below wr.heap.size wr w') : IsI g w L w' := ⟨h.row.step hb, h.but.step hb⟩
theorem IsI.swap {g : Nat} {w w2 : World} {L : List (Int × Nat)} (h : IsI g w L w2) {jj : Nat} (hl : jj < L.length) (x y : Int × Nat) : IsI g w ((L.set jj y).set (jj - 1) x) ((w2.setCell ⟨g, jj, none⟩ (.int .i64 y.1)).setCell ⟨g, (jj - 1), none⟩ (.int .i64 x.1)).drew :=
  ⟨SRowI.drew ((h.row.put hl y).put (j := jj - 1) (by rw [List.length_set]; omega) x), But.step ((h.but.set (p := ⟨g, jj, none⟩) rfl (.int .i64 y.1)).set (p := ⟨g, (jj - 1), none⟩) rfl (.int .i64 x.1)) ((Below.refl _ _).drew)⟩
def IsDoneI (g : Nat) (w : World) (A Seg D : List (Int × Nat)) (e : Ending) (w' : World) : Prop :=
  e = .returned (.tuple #[]) ∧ ∃ S, Sorted (fun p q : Int => gapC p q) Seg S ∧ IsI g w (A ++ S ++ D) w'

set_option maxRecDepth 100000 in
set_option maxHeartbeats 4000000 in
theorem isortI_any (H : Ordered (fun p q : Int => gapC p q)) (A Seg D : List (Int × Nat)) (g n c a b : Nat) (w : World) (hr : SRowI w g (A ++ Seg ++ D)) (hn : n = (A ++ Seg ++ D).length) (ha : a = A.length) (hb : b = A.length + Seg.length)
    (hz : n * 8 ≤ reach) (ht : Tagged Seg) (hc : CmpOkI g w Seg) :
    Calls Try.prog 50 #[.slice (some ⟨g, 0, none⟩) n c, .int .i64 a, .int .i64 b, .func (.func 48) #[] #[.pointer (some ⟨(default : Ctx).mc, 0, none⟩)]] w (IsDoneI g w A Seg D) := by
  unfold reach at hz
  have HN := Lib.hid hn
  have HA := Lib.hid ha
  have HBq := Lib.hid hb
  have hab : a ≤ b := by omega
  have hbn : b ≤ n := by rw [hn]; simp; omega
  have HC := Lib.hid hc
  have HT := Lib.hid ht
  have HO := Lib.hid H
  have I0 : Hid (IsI g w (A ++ Seg ++ D) w) := Lib.hid ⟨hr, But.refl⟩
  clear hr hn ha hb ht hc H
  cases hs : Seg with
  | nil =>
    have hab' : b ≤ a := by have := HA.out; have := HBq.out; rw [hs] at this; simp at this; omega
    have HS := Lib.hid hs
    clear hs
    go_enter Try.func50, Try.ntmps50
    go_wp2_with fail
    go_loopw [8] (fun v8 wr => v8 = .int .i64 (a + 1) ∧ wr = w) (fun _ _ => 0)
    case atStart => exact ⟨by go_num, rfl⟩
    case round =>
      obtain ⟨rfl, rfl⟩ := hrel
      go_wp2_with fail
      go_end0
      exact ⟨rfl, [], Sorted.nil, by have := I0.out; rw [HS.out] at this; exact this⟩
  | cons x0 rest =>
    have HS := Lib.hid hs
    clear hs
    rw [← HS.out]
    go_enter Try.func50, Try.ntmps50
    go_wp2_with fail
    go_loopw [8] (fun v8 wr => ∃ (i : Nat) (P Q S : List (Int × Nat)), v8 = .int .i64 i ∧ i = a + P.length ∧ 1 ≤ P.length ∧ i ≤ b ∧ Seg = P ++ Q ∧ Sorted (fun p q : Int => gapC p q) P S ∧ IsI g w (A ++ S ++ (Q ++ D)) wr) (fun v8 _ => b - (intOf v8).toNat)
    case atStart =>
      refine ⟨a + 1, [x0], rest, [x0], by go_num, rfl, Nat.le_refl _, ?_, HS.out, Sorted.one x0, ?_⟩
      · have := HBq.out; have := HA.out; rw [HS.out] at *; simp at *; omega
      · have := I0.out
        rw [HS.out] at this
        simpa using this
    case round =>
      obtain ⟨i, P, Q, S, rfl, hi, hP, hib, hPQ, hS, I⟩ := hrel
      have HI := Lib.hid hi
      have HPQ := Lib.hid hPQ
      have HSo := Lib.hid hS
      have J := Lib.hid I
      clear hi hPQ hS
      by_cases hlt : i < b
      · obtain ⟨x, Q', hQ⟩ : ∃ x Q', Q = x :: Q' := by
          cases Q with
          | nil =>
            have h1 := HBq.out
            have h2 := HI.out
            have h3 := HA.out
            rw [HPQ.out] at h1
            simp at h1
            omega
          | cons x Q' => exact ⟨x, Q', rfl⟩
        have HQ := Lib.hid hQ
        have hSl : S.length = P.length := HSo.out.perm.length_eq
        have HSl := Lib.hid hSl
        clear I hSl hQ
        go_wp2_with fail
        go_loopw [9] (fun v9 wr => ∃ (jj : Nat) (S1 S2 : List (Int × Nat)), v9 = .int .i64 jj ∧ jj = a + S1.length ∧ jj ≤ i ∧ S = S1 ++ S2 ∧ (∀ y ∈ S2, gapC x.1 y.1 < 0) ∧ IsI g w (A ++ (S1 ++ x :: S2) ++ (Q' ++ D)) wr) (fun v9 _ => (intOf v9).toNat)
        case atStart =>
          refine ⟨i, S, [], rfl, by rw [HI.out, HSl.out], Nat.le_refl _, by simp, by simp, ?_⟩
          have := J.out
          rw [HQ.out] at this
          simpa using this
        case round =>
          clear J
          obtain ⟨jj, S1, S2, rfl, hj, hji, hSS, hall, I⟩ := hrel
          have HJ := Lib.hid hj
          have HSS := Lib.hid hSS
          have HAll := Lib.hid hall
          have J := Lib.hid I
          clear hj hSS hall
          by_cases hgt : a < jj
          · obtain ⟨S3, y, hS3⟩ : ∃ S3 y, S1 = S3 ++ [y] := by
              rcases List.eq_nil_or_concat S1 with h | ⟨S3, y, h⟩
              · have := HJ.out; rw [h] at this; simp at this; omega
              · exact ⟨S3, y, by rw [h, List.concat_eq_append]⟩
            have hA := HA.out
            have hj1 : jj = A.length + (S3.length + 1) := by rw [HJ.out, hS3]; simp; omega
            have hx : (A ++ (S1 ++ x :: S2) ++ (Q' ++ D))[jj]? = some x := by
              rw [hS3, hj1]; simp
            have hy : (A ++ (S1 ++ x :: S2) ++ (Q' ++ D))[jj - 1]? = some y := by
              rw [hS3, hj1]; simp
            have hxm : x ∈ Seg := by rw [HPQ.out, HQ.out]; simp
            have hym : y ∈ Seg := by
              rw [HPQ.out]
              exact List.mem_append_left _ (HSo.out.perm.subset (by rw [HSS.out, hS3]; simp))
            have p0 : wr.cell? ⟨g, jj, none⟩ = some (.int .i64 x.1) := I.row.cell hx 0 _ rfl
            have r0 : wr.cell? ⟨g, (jj - 1), none⟩ = some (.int .i64 y.1) := I.row.cell hy 0 _ rfl
            have P0 : ∀ k : BW wr, k.val.cell? ⟨g, jj, none⟩ = some (.int .i64 x.1) := fun k => k.cell p0
            have R0 : ∀ k : BW wr, k.val.cell? ⟨g, (jj - 1), none⟩ = some (.int .i64 y.1) := fun k => k.cell r0
            have hjn : jj < n := by omega
            have i0 : (0 : Int) ≤ (jj : Int) := by omega
            have i1 : (jj : Int) < (n : Int) := by omega
            have i2 : (0 : Int) ≤ (jj : Int) - 1 := by omega
            have i3 : (jj : Int) - 1 < (n : Int) := by omega
            have W1 : IntKind.i64.wrap ((jj : Int) - 1) = (jj : Int) - 1 := wrap_i64' (by omega) (by omega)
            have W2 : ((jj : Int) - 1).toNat = jj - 1 := by omega
            have K1 : Hid (∀ k : BW wr, Calls Try.prog 48 #[aggI x, aggI y, .pointer (some ⟨(default : Ctx).mc, 0, none⟩)] k.val fun e w'' => e = .returned (.int .i64 (gapC x.1 y.1)) ∧ ∃ k : BW wr, w'' = k.val) := fun k =>
              Calls.bw (HC.out x y hxm hym k.val (I.but.step k.below))
            have HX := Lib.hid hx
            have HY := Lib.hid hy
            have HS3 := Lib.hid hS3
            have HJ1 := Lib.hid hj1
            clear p0 r0 hx hy hxm hym I hS3 hj1 hA
            go_upto_region 4 with fail
            refine wp_region_bw (by kernel_rfl) (by kernel_rfl) ?_
            repeat (go_big_quiet_step (with_reducible exact K1.out _))
            refine wpQuiet_nil ?_
            rintro _ ⟨kw, rfl⟩
            have J2 := Lib.hid (J.out.step kw.below)
            clear P0 R0 K1 W1 W2 i0 i1 i2 i3
            generalize kw.val = w2 at *
            by_cases hc : gapC x.1 y.1 < 0
            · have p0 : w2.cell? ⟨g, jj, none⟩ = some (.int .i64 x.1) := J2.out.row.cell HX.out 0 _ rfl
              have r0 : w2.cell? ⟨g, (jj - 1), none⟩ = some (.int .i64 y.1) := J2.out.row.cell HY.out 0 _ rfl
              have z := SRowI.frozen J2.out.row
              go_upto_region 6 with fail
              go_region
              all_goals
                clear p0 r0 z
                go_wp2_with fail
                refine ⟨⟨jj - 1, S3, y :: S2, by rw [show ((jj - 1 : Nat) : Int) = (jj : Int) - 1 by omega], by rw [HJ1.out, HA.out]; omega, by omega, by rw [HSS.out, HS3.out]; simp, ?_, ?_⟩, by simp [intOf]; omega⟩
                · intro q hq
                  rcases List.mem_cons.1 hq with rfl | hq
                  · exact hc
                  · exact HAll.out q hq
                · have hl : jj < (A ++ (S1 ++ x :: S2) ++ (Q' ++ D)).length := (List.getElem?_eq_some_iff.1 HX.out).1
                  have r1 := J2.out.swap hl x y
                  rw [HS3.out, HJ1.out, swap_list, ← HJ1.out] at r1
                  exact r1
            · have HD : Hid (Sorted (fun p q : Int => gapC p q) (P ++ [x]) (S1 ++ x :: S2)) := by
                refine Sorted.insert HO.out (by rw [← HSS.out]; exact HSo.out) (fun y hy => ?_) HAll.out (fun q hq => ?_)
                · have h := HT.out
                  rw [HPQ.out, HQ.out] at h
                  exact (List.pairwise_append.1 h).2.2 y hy x (by simp)
                · rw [HS3.out] at hq
                  simp at hq
                  subst hq
                  exact hc
              go_wp2_with fail
              go_roundw
              case rel => exact ⟨i + 1, P ++ [x], Q', S1 ++ x :: S2, by go_num, by rw [HI.out]; simp; omega, by simp, by omega, by rw [HPQ.out, HQ.out]; simp, HD.out, J2.out⟩
              case measure => simp [intOf]; omega
          · have HN1 : Hid (S1 = []) := List.eq_nil_of_length_eq_zero (by have := HJ.out; omega)
            have HD : Hid (Sorted (fun p q : Int => gapC p q) (P ++ [x]) (S1 ++ x :: S2)) := by
              refine Sorted.insert HO.out (by rw [← HSS.out]; exact HSo.out) (fun y hy => ?_) HAll.out (fun q hq => ?_)
              · have h := HT.out
                rw [HPQ.out, HQ.out] at h
                exact (List.pairwise_append.1 h).2.2 y hy x (by simp)
              · rw [HN1.out] at hq
                simp at hq
            clear I
            have hgt' : decide ((a : Int) < (jj : Int)) = false := decide_eq_false (by omega)
            go_upto_region 4 with fail
            go_quiet (fail)
            go_wp2_with fail
            go_roundw
            case rel => exact ⟨i + 1, P ++ [x], Q', S1 ++ x :: S2, by go_num, by rw [HI.out]; simp; omega, by simp, by omega, by rw [HPQ.out, HQ.out]; simp, HD.out, J.out.step (Below.drewN (Below.refl _ _) _)⟩
            case measure => simp [intOf]; omega
      · have HF : Hid (Q = []) := by
          have h1 := HBq.out
          have h2 := HI.out
          have h3 := HA.out
          rw [HPQ.out] at h1
          simp at h1
          exact List.eq_nil_of_length_eq_zero (by omega)
        clear I
        go_wp2_with fail
        go_end0
        refine ⟨rfl, S, ?_, ?_⟩
        · have := HSo.out; rw [HPQ.out, HF.out, List.append_nil]; exact this
        · have := J.out; rw [HF.out, List.nil_append] at this; exact this

end Go.Proofs.Ytefolbfopjfbcaa
