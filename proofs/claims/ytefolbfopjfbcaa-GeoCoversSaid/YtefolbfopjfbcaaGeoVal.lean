/- Contracts of geo.Valid and of the reference's Valid, over a slice of points that reads as a list. -/
import Derived.Test.YtefolbfopjfbcaaGeoPure
import Derived.Deep.DeepCutAuto
import Derived.Deep.CutBlock
namespace Go.Proofs.Ytefolbfopjfbcaa
open Go.RowKit

def RdPts (w : World) (A : Option Addr) (n : Nat) (ps : List (Int × Int)) : Prop :=
  ps.length = n ∧ n ≤ maxLen ∧ (0 < n → ∃ b off, A = some ⟨b, off, none⟩ ∧ b < w.heap.size ∧ ∀ i x y, ps[i]? = some (x, y) → w.cell? ⟨b, off + i * 2, none⟩ = some (.int .i64 x) ∧ w.cell? ⟨b, off + i * 2 + 1, none⟩ = some (.int .i64 y))

theorem RdPts.below {w w' : World} {A : Option Addr} {n : Nat} {ps : List (Int × Int)} (h : RdPts w A n ps) (hb : Below w.heap.size w w') : RdPts w' A n ps := by
  refine ⟨h.1, h.2.1, fun hn => ?_⟩
  obtain ⟨b, off, hA, hlt, hc⟩ := h.2.2 hn
  refine ⟨b, off, hA, Nat.lt_of_lt_of_le hlt hb.size, fun i x y hi => ?_⟩
  obtain ⟨h1, h2⟩ := hc i x y hi
  exact ⟨(hb.cell (p := ⟨b, _, none⟩) hlt).trans h1, (hb.cell (p := ⟨b, _, none⟩) hlt).trans h2⟩

/-- a value of type Shape -/
abbrev shp (k : Int) (A : Option Addr) (n c : Nat) (r : Int) : Value := .agg #[.int .i64 k, .slice A n c, .int .i64 r]

def formB (k n r : Int) : Bool :=
  if k == 1 then (if n = 2 then r == 0 else false) else if k == 2 then (if n = 1 then coordB r else false) else if k == 3 then (if 3 ≤ n then if n ≤ 64 then r == 0 else false else false) else false
def validB (k : Int) (ps : List (Int × Int)) (r : Int) : Bool := formB k ps.length r && ps.all fun p => pointB p.1 p.2
def errOf (b : Bool) : Int := if b then 0 else 18

theorem valid_form (k : Int) (ps : List (Int × Int)) (r : Int) (h : formB k ps.length r = false) : validB k ps r = false := by simp [validB, h]
theorem valid_at (k : Int) (ps : List (Int × Int)) (r : Int) (h : formB k ps.length r = true) (i : Nat) (x y : Int) (hi : ps[i]? = some (x, y)) (hp : pointB x y = false) : validB k ps r = false := by
  simp only [validB, h, Bool.true_and]
  cases hb : ps.all fun p => pointB p.1 p.2
  · rfl
  · rw [List.all_eq_true] at hb
    have := hb (x, y) (List.mem_of_getElem? hi)
    simp [hp] at this
theorem valid_all (k : Int) (ps : List (Int × Int)) (r : Int) (h : formB k ps.length r = true) (hp : ∀ (i : Nat) x y, ps[i]? = some (x, y) → pointB x y = true) : validB k ps r = true := by
  simp only [validB, h, Bool.true_and, List.all_eq_true]
  rintro ⟨x, y⟩ hm
  obtain ⟨i, hi⟩ := List.getElem?_of_mem hm
  exact hp i x y hi

set_option maxHeartbeats 1000000 in
theorem valid_any (k : Int) (A : Option Addr) (n c : Nat) (r : Int) (ps : List (Int × Int)) (w : World) (h : RdPts w A n ps) :
    Calls Try.prog 15 #[shp k A n c r] w fun e w' => e = .returned (.int .i64 (errOf (validB k ps r))) ∧ Below w.heap.size w w' := by
  have hn := h.2.1
  unfold maxLen at hn
  go_enter Try.func15, Try.ntmps15
  go_upto_block 0 with fail
  go_cut [3, 4] (fun s3 s4 wx => s3 = .int .i64 n ∧ s4 = .bool (formB k n r) ∧ wx = w.alloc (Obj.cells #[Value.int IntKind.i64 k, Value.slice A n c, Value.int IntKind.i64 r] 35))
  case first =>
    go_wp2_with (go_at_call 37; refine (isCoordinate_any _ _).mono ?_; rintro e w' ⟨rfl, rfl⟩)
    all_goals (go_meet; refine ⟨?_, ?_, rfl⟩)
    all_goals (first | (simp [*]; done) | (simp [formB, *]; done) | (simp [formB, *]; omega))
  case rest =>
    obtain ⟨rfl, rfl, rfl⟩ := hcut
    cases hf : formB k n r
    · have HF := Lib.hid (valid_form k ps r (by rw [h.1]; exact hf))
      go_wp2_with fail
      go_ret
      exact ⟨by rw [HF.out]; rfl, (Below.refl _ _).alloc (Nat.le_refl _) _⟩
    · have hf' : formB k ps.length r = true := by rw [h.1]; exact hf
      have HF := Lib.hid hf'
      have HL := Lib.hid h
      clear h hf'
      go_wp2_with fail
      go_loopw [2, 6, 48] (fun v2 v6 v48 wr => ∃ i : Nat, i ≤ n ∧ v2 = .int .i64 0 ∧ v48 = .int .i64 i ∧ (∀ (j : Nat) x y, j < i → ps[j]? = some (x, y) → pointB x y = true) ∧ Below (w.heap.size + 1) (w.alloc (Obj.cells #[Value.int IntKind.i64 k, Value.slice A n c, Value.int IntKind.i64 r] 35)) wr) (fun _ _ v48 _ => n - (intOf v48).toNat)
      case atStart => exact ⟨0, Nat.zero_le _, rfl, rfl, fun j _ _ h => by omega, Below.refl _ _⟩
      case round =>
        obtain ⟨i, hi, rfl, rfl, hall, hbel⟩ := hrel
        by_cases hlt : i < n
        · obtain ⟨hl, _, hr⟩ := HL.out
          obtain ⟨b, off, rfl, hb, hc⟩ := hr (by omega)
          obtain ⟨⟨x, y⟩, hxy⟩ : ∃ p, ps[i]? = some p := ⟨_, List.getElem?_eq_getElem (by omega)⟩
          obtain ⟨c0, c1⟩ := hc i x y hxy
          have d0 := (hbel.cell (p := ⟨b, off + i * 2, none⟩) (by simp; omega)).trans (((Below.refl _ _).alloc (Nat.le_refl _) _).cell (p := ⟨b, off + i * 2, none⟩) hb |>.trans c0)
          have d1 := (hbel.cell (p := ⟨b, off + i * 2 + 1, none⟩) (by simp; omega)).trans (((Below.refl _ _).alloc (Nat.le_refl _) _).cell (p := ⟨b, off + i * 2 + 1, none⟩) hb |>.trans c1)
          have HX := Lib.hid hxy
          have HA := Lib.hid hall
          clear hl hr hc c0 c1 hxy hall
          go_wp2_with fail
          refine (isPoint_any _ _ _).mono ?_
          rintro e w1 ⟨rfl, hb1⟩
          have hbel1 := (hbel.alloc (by have := hbel.size; simp at this; omega) (Obj.cells #[Value.int IntKind.i64 x, Value.int IntKind.i64 y] 27)).trans (hb1.mono (by have := hbel.size; simp at this; simp; omega))
          clear hb1 hbel
          cases hp : pointB x y
          · have HV := Lib.hid (valid_at k ps r HF.out i x y HX.out hp)
            go_wp2_with fail
            go_ret
            exact ⟨by rw [HV.out]; rfl, ((Below.refl _ _).alloc (Nat.le_refl _) _).trans (hbel1.mono (by omega))⟩
          · have HP := Lib.hid hp
            go_wp2_with fail
            go_roundw
            case rel =>
              refine ⟨i + 1, by omega, rfl, by go_num, fun j x' y' hj hjx => ?_, hbel1⟩
              by_cases e : j = i
              · subst e
                have := HX.out.symm.trans hjx
                simp at this
                obtain ⟨rfl, rfl⟩ := this
                exact HP.out
              · exact HA.out j x' y' (by omega) hjx
            case measure => simp [intOf]; omega
        · have hin : i = n := by omega
          have HV := Lib.hid (valid_all k ps r HF.out (fun j x y hj => hall j x y (by
            have := (List.getElem?_eq_some_iff.1 hj).1
            have := HL.out.1
            omega) hj))
          subst hin
          clear hall
          go_wp2_with fail
          go_ret
          exact ⟨by rw [HV.out]; rfl, ((Below.refl _ _).alloc (Nat.le_refl _) _).trans (hbel.mono (by omega))⟩

end Go.Proofs.Ytefolbfopjfbcaa
