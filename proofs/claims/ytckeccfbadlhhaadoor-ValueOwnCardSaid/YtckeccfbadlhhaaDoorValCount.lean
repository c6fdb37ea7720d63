/- Contracts of the reference's count, levels, Nodes, Depth and of value.Nodes, value.Depth. -/
import Derived.Test.YtckeccfbadlhhaaDoorValParts
namespace Go.Proofs.YtckeccfbadlhhaaDoor
open Go.RowKit

def cntI (l : List Val) (most : Int) : Int := min (1 + (sizeL l : Int)) most
def lvlI (l : List Val) (most : Int) : Int := min (heightL l : Int) (most - 1)
theorem cntI_next {l : List Val} {i : Nat} {y : Val} {most : Int} (hy : l[i]? = some y) (h : cntI (l.take i) most < most) :
    cntI (l.take i) most + nodesI y (most - cntI (l.take i) most) = cntI (l.take (i + 1)) most := by
  have h1 := sizeL_snoc hy
  unfold cntI nodesI at *
  omega
theorem cntI_end {x : Val} {i : Nat} {most : Int} (h : x.parts.length ≤ i ∨ most ≤ cntI (x.parts.take i) most) : cntI (x.parts.take i) most = nodesI x most := by
  have h1 := sizeL_take x.parts i
  have h2 := size_parts x
  rcases h with h | h
  · rw [List.take_of_length_le h]
    unfold cntI nodesI
    omega
  · unfold cntI nodesI at *
    omega
theorem lvlI_next {l : List Val} {i : Nat} {y : Val} {most : Int} (hy : l[i]? = some y) :
    max (lvlI (l.take i) most) (depthI y (most - 1)) = lvlI (l.take (i + 1)) most := by
  have h1 := heightL_snoc hy
  unfold lvlI depthI at *
  omega
theorem lvlI_end {x : Val} {i : Nat} {most : Int} (h : x.parts.length ≤ i) : lvlI (x.parts.take i) most + 1 = depthI x most := by
  have h2 := height_parts x
  rw [List.take_of_length_le h]
  unfold lvlI depthI
  omega

def RCountAt (x : Val) : Prop := ∀ (c : VC) (most : Int) (w : World), RW w c x → 1 ≤ most → most ≤ 1025 →
    Calls Tryd.prog 39 #[c.val, .int .i64 most] w fun e w' => e = .returned (.int .i64 (nodesI x most)) ∧ Below w.heap.size w w'
def RLevelsAt (x : Val) : Prop := ∀ (c : VC) (most : Int) (w : World), RW w c x → 1 ≤ most → most ≤ 17 →
    Calls Tryd.prog 37 #[c.val, .int .i64 most] w fun e w' => e = .returned (.int .i64 (depthI x most)) ∧ Below w.heap.size w w'

set_option maxHeartbeats 1000000 in
theorem rcount_any : ∀ x, RCountAt x := by
  refine Val.indP fun x ih => ?_
  intro c most w h h1 h2
  have H := Lib.hid h
  have IH := Lib.hid ih
  clear h ih
  go_enter Tryd.func39, Tryd.ntmps39
  go_wp2_with fail
  refine (rparts_any x c _ (H.out.alloc _)).mono ?_
  rintro e w1 ⟨A, n, cc, ps, rfl, hx, hsl, hb⟩
  have HB := Lib.hid (((Below.refl _ _).alloc (Nat.le_refl _) _).step' hb)
  have HX := Lib.hid hx
  have HL := Lib.hid hsl
  have HN := Lib.hid hsl.sr.ln
  have hz := hsl.sz
  unfold reach at hz
  clear hx hsl hb
  go_wp2_with fail
  go_loopw [5, 7] (fun v5 v7 wr => ∃ i : Nat, i ≤ n ∧ v7 = .int .i64 i ∧ v5 = .int .i64 (cntI (x.parts.take i) most) ∧ Below w1.heap.size w1 wr) (fun _ v7 _ => n - (intOf v7).toNat)
  case atStart => exact ⟨0, Nat.zero_le _, rfl, by congr 1; unfold cntI; simp [sizeL]; omega, Below.refl _ _⟩
  case round =>
    obtain ⟨i, hi, rfl, rfl, I⟩ := hrel
    have J := Lib.hid I
    have r : 1 ≤ cntI (x.parts.take i) most ∧ cntI (x.parts.take i) most ≤ most := by unfold cntI; omega
    obtain ⟨N, hN⟩ : ∃ N, cntI (x.parts.take i) most = N := ⟨_, rfl⟩
    rw [hN] at r ⊢
    have HNN := Lib.hid hN
    clear hN
    by_cases hlt : i < n
    · by_cases hm : N < most
      · obtain ⟨p, hp⟩ : ∃ p, ps[i]? = some p := ⟨_, List.getElem?_eq_getElem (by have := HN.out; omega)⟩
        obtain ⟨b, off, rfl, _, hu, hr⟩ := HL.out.vat hp
        obtain ⟨y0, y1, y2, y3, y4⟩ := hu.keep (I.block b hu.lt)
        have hy : x.parts[i]? = some p.2 := by rw [← HX.out, List.getElem?_map, hp]; rfl
        have HR := Lib.hid (hr.step I)
        have HC := Lib.hid (IH.out p.2 (List.mem_of_getElem? hy))
        have r2 : 1 ≤ nodesI p.2 (most - N) ∧ nodesI p.2 (most - N) ≤ most - N := by
          have := size_pos p.2
          unfold nodesI
          omega
        have HV : Hid (N + nodesI p.2 (most - N) = cntI (x.parts.take (i + 1)) most) := by
          rw [Hid, ← HNN.out]
          exact cntI_next hy (by rw [HNN.out]; exact hm)
        clear hp hu hr hy I
        go_wp2_with fail
        refine (HC.out p.1 (most - N) _ HR.out (by omega) (by omega)).mono ?_
        rintro e w2 ⟨rfl, hb2⟩
        have J2 := Lib.hid (J.out.step' hb2)
        clear y0 y1 y2 y3 y4 hb2
        go_wp2_with fail
        go_roundw
        case rel => exact ⟨i + 1, by omega, by go_num, by rw [HV.out], J2.out⟩
        case measure => simp [intOf]; omega
      · have HV : Hid (N = nodesI x most) := by rw [Hid, ← HNN.out]; exact cntI_end (.inr (by rw [HNN.out]; omega))
        go_wp2_with fail
        go_ret
        exact ⟨by rw [← HV.out]; rfl, HB.out.step' J.out⟩
    · have HV : Hid (N = nodesI x most) := by rw [Hid, ← HNN.out]; exact cntI_end (.inl (by rw [← HX.out, List.length_map, ← HN.out]; omega))
      go_wp2_with fail
      go_ret
      exact ⟨by rw [← HV.out]; rfl, HB.out.step' J.out⟩

set_option maxHeartbeats 1000000 in
theorem rlevels_any : ∀ x, RLevelsAt x := by
  refine Val.indP fun x ih => ?_
  intro c most w h h1 h2
  have H := Lib.hid h
  have IH := Lib.hid ih
  clear h ih
  go_enter Tryd.func37, Tryd.ntmps37
  go_wp2_with fail
  refine (rparts_any x c _ (H.out.alloc _)).mono ?_
  rintro e w1 ⟨A, n, cc, ps, rfl, hx, hsl, hb⟩
  have HB := Lib.hid (((Below.refl _ _).alloc (Nat.le_refl _) _).step' hb)
  have HX := Lib.hid hx
  have HL := Lib.hid hsl
  have HN := Lib.hid hsl.sr.ln
  have hz := hsl.sz
  unfold reach at hz
  clear hx hsl hb
  by_cases hm : most < 2
  · have HV : Hid (depthI x most = 1) := by
      have := height_pos x
      unfold Hid depthI
      omega
    go_wp2_with fail
    go_ret
    exact ⟨by rw [HV.out]; rfl, HB.out⟩
  · cases hn0 : ((n : Int) == 0)
    · go_wp2_with fail
      go_loopw [6, 7] (fun v6 v7 wr => ∃ i : Nat, i ≤ n ∧ v7 = .int .i64 i ∧ v6 = .int .i64 (lvlI (x.parts.take i) most) ∧ Below w1.heap.size w1 wr) (fun _ v7 _ => n - (intOf v7).toNat)
      case atStart => exact ⟨0, Nat.zero_le _, rfl, by congr 1; unfold lvlI; simp [heightL]; omega, Below.refl _ _⟩
      case round =>
        obtain ⟨i, hi, rfl, rfl, I⟩ := hrel
        have J := Lib.hid I
        have r : 0 ≤ lvlI (x.parts.take i) most ∧ lvlI (x.parts.take i) most ≤ 17 := by unfold lvlI; omega
        obtain ⟨N, hN⟩ : ∃ N, lvlI (x.parts.take i) most = N := ⟨_, rfl⟩
        rw [hN] at r ⊢
        have HNN := Lib.hid hN
        clear hN
        by_cases hlt : i < n
        · obtain ⟨p, hp⟩ : ∃ p, ps[i]? = some p := ⟨_, List.getElem?_eq_getElem (by have := HN.out; omega)⟩
          obtain ⟨b, off, rfl, _, hu, hr⟩ := HL.out.vat hp
          obtain ⟨y0, y1, y2, y3, y4⟩ := hu.keep (I.block b hu.lt)
          have hy : x.parts[i]? = some p.2 := by rw [← HX.out, List.getElem?_map, hp]; rfl
          have HR := Lib.hid (hr.step I)
          have HC := Lib.hid (IH.out p.2 (List.mem_of_getElem? hy))
          have HV : Hid (max N (depthI p.2 (most - 1)) = lvlI (x.parts.take (i + 1)) most) := by
            rw [Hid, ← HNN.out]
            exact lvlI_next hy
          clear hp hu hr hy I
          go_wp2_with fail
          refine (HC.out p.1 (most - 1) _ HR.out (by omega) (by omega)).mono ?_
          rintro e w2 ⟨rfl, hb2⟩
          have J2 := Lib.hid (J.out.step' hb2)
          clear y0 y1 y2 y3 y4 hb2
          by_cases hle : N < depthI p.2 (most - 1)
          all_goals
            go_wp2_with fail
            go_roundw
            case rel => exact ⟨i + 1, by omega, by go_num, by rw [← HV.out]; congr 1; omega, J2.out⟩
            case measure => simp [intOf]; omega
        · have HV : Hid (N + 1 = depthI x most) := by rw [Hid, ← HNN.out]; exact lvlI_end (by rw [← HX.out, List.length_map, ← HN.out]; omega)
          go_wp2_with fail
          go_ret
          exact ⟨by rw [← HV.out]; rfl, HB.out.step' J.out⟩
    · have HV : Hid (1 = depthI x most) := by
        have := lvlI_end (x := x) (i := 0) (most := most) (by rw [← HX.out, List.length_map, ← HN.out]; simp at hn0; omega)
        unfold Hid
        rw [← this]
        unfold lvlI
        simp [heightL]
        omega
      go_wp2_with fail
      go_ret
      exact ⟨by rw [← HV.out]; rfl, HB.out⟩

def nodesV (x : Val) : Int := nodesI x 1025
def depthV (x : Val) : Int := depthI x 17
theorem nodesV_any (x : Val) (c : VC) (w : World) (h : RW w c x) : Calls Tryd.prog 15 #[c.val] w fun e w' => e = .returned (.int .i64 (nodesV x)) ∧ Below w.heap.size w w' := by
  have H := Lib.hid h
  clear h
  go_enter Tryd.func15, Tryd.ntmps15
  go_wp2_with fail
  refine (nodes_any x c 1025 _ (H.out.alloc _) (by omega) (by omega)).mono ?_
  rintro e w1 ⟨rfl, hb⟩
  go_wp2_with fail
  go_ret
  exact ⟨rfl, ((Below.refl _ _).alloc (Nat.le_refl _) _).step' hb⟩
theorem depthV_any (x : Val) (c : VC) (w : World) (h : RW w c x) : Calls Tryd.prog 13 #[c.val] w fun e w' => e = .returned (.int .i64 (depthV x)) ∧ Below w.heap.size w w' := by
  have H := Lib.hid h
  clear h
  go_enter Tryd.func13, Tryd.ntmps13
  go_wp2_with fail
  refine (depth_any x c 17 _ (H.out.alloc _) (by omega) (by omega)).mono ?_
  rintro e w1 ⟨rfl, hb⟩
  go_wp2_with fail
  go_ret
  exact ⟨rfl, ((Below.refl _ _).alloc (Nat.le_refl _) _).step' hb⟩
theorem rnodesV_any (x : Val) (c : VC) (w : World) (h : RW w c x) : Calls Tryd.prog 16 #[c.val] w fun e w' => e = .returned (.int .i64 (nodesV x)) ∧ Below w.heap.size w w' := by
  have H := Lib.hid h
  clear h
  go_enter Tryd.func16, Tryd.ntmps16
  go_wp2_with fail
  refine (rcount_any x c 1025 _ (H.out.alloc _) (by omega) (by omega)).mono ?_
  rintro e w1 ⟨rfl, hb⟩
  go_wp2_with fail
  go_ret
  exact ⟨rfl, ((Below.refl _ _).alloc (Nat.le_refl _) _).step' hb⟩
theorem rdepthV_any (x : Val) (c : VC) (w : World) (h : RW w c x) : Calls Tryd.prog 14 #[c.val] w fun e w' => e = .returned (.int .i64 (depthV x)) ∧ Below w.heap.size w w' := by
  have H := Lib.hid h
  clear h
  go_enter Tryd.func14, Tryd.ntmps14
  go_wp2_with fail
  refine (rlevels_any x c 17 _ (H.out.alloc _) (by omega) (by omega)).mono ?_
  rintro e w1 ⟨rfl, hb⟩
  go_wp2_with fail
  go_ret
  exact ⟨rfl, ((Below.refl _ _).alloc (Nat.le_refl _) _).step' hb⟩

end Go.Proofs.YtckeccfbadlhhaaDoor
