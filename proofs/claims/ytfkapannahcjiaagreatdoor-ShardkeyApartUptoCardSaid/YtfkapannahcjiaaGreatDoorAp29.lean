/- Parts of the proof, joined: PrNode, PrValid, ShAwPure, ShKey0, ShKey1, ShEncodesWalk, RgApartWalk, ChOpenA, ShOpen. -/
import Derived.Test.YtfkapannahcjiaaGreatDoorAp28
import Derived.Test.YtfkapannahcjiaaGreatDoorAp27
import Derived.Test.YtfkapannahcjiaaGreatDoorAp16
import Derived.Test.YtfkapannahcjiaaGreatDoorAp21
import Derived.Test.YtfkapannahcjiaaGreatDoorAp3
import Derived.Deep.CutBlock
import Derived.Deep.RegionHeld3
import Derived.Laws.OwnMore
/- The reference's node and Valid of predicates. -/
namespace Go.Proofs.YtfkapannahcjiaaGreatDoor
open Go.RowKit
set_option linter.unusedSimpArgs false

/-- zero is handed back only at a valid predicate -/
def NodeOk (p : PrT) (w : World) (e : Ending) (w' : World) : Prop := ∃ n : Int, e = .returned (.int .i64 n) ∧ (n = 0 → VPr p) ∧ Below w.heap.size w w'
theorem NodeOk.no {p : PrT} {w w' : World} {n : Int} (h : n ≠ 0) (hb : Below w.heap.size w w') : NodeOk p w (.returned (.int .i64 n)) w' := ⟨n, rfl, fun k => absurd k h, hb⟩
/-- what node has seen -/
structure NdF (p : PrT) : Prop where
  kids : kidsB p = true
  nums : numbersB p = true
  arg : hasArgB p.op = true → validV p.arg.2 = true ∧ (hasTextB p.op = true → p.arg.1.k = 4)
  args : hasArgsB p.op = true → ∀ x ∈ p.args.xs, validV x.2 = true
theorem NdF.vpr {p : PrT} {w : World} (h : NdF p) (W : WPo w p) (hk : p.op = 20 ∨ p.op = 21 → ∀ k ∈ p.kids, VPr k) : VPr p := by
  refine VPo.shut ⟨fun ho => ?_, fun ho => ?_, fun ho => ?_, fun ho => ?_, fun ho => ?_, hk⟩
  · have e : hasArgB p.op = true := by rcases ho with ho | ho | ho | ho | ho | ho <;> rw [ho] <;> rfl
    exact (h.arg e).1
  · have e : hasArgsB p.op = true := by rw [ho]; rfl
    exact h.args e
  · have e : hasArgB p.op = true := by rw [ho]; rfl
    have e' : hasTextB p.op = true := by rw [ho]; rfl
    rw [← W.arg.open.k]
    exact (h.arg e).2 e'
  · have := h.nums
    unfold numbersB at this
    rw [if_neg (by omega), if_pos ho] at this
    simpa using this
  · have := h.kids
    unfold kidsB at this
    rw [if_neg (by omega), if_pos (by omega)] at this
    have hn := W.sr.ln
    intro e
    rw [e] at hn
    simp at hn this
    omega
set_option maxRecDepth 100000 in
set_option maxHeartbeats 8000000 in
theorem node13_any (p : PrT) : ∀ (el : Bool) (w : World), WP w p → Tabs w → Calls Tryz.prog 16 #[aggPr p, .bool el] w (NodeOk p w) := by
  induction p using PrT.ind with
  | h p ih =>
  intro el w hw hT
  have HT := Lib.hid hT
  have W := Lib.hid hw.open
  have IH := Lib.hid ih
  have hkz : p.kn ≤ 140737488355328 := by have := W.out.ksz; unfold reach at this; omega
  have hpz : p.path.n ≤ 140737488355328 := by have := W.out.path.sz; unfold reach at this; omega
  have haz : p.args.n ≤ 1048576 := W.out.few
  clear ih hw hT
  have B0 : Hid (Blk (w.alloc (Obj.cells (arrPr p) 38)) w.heap.size 38 (arrPr p)) := Blk.new_at rfl
  have BE := Lib.hid ((Below.refl w.heap.size w).alloc (Nat.le_refl _) (Obj.cells (arrPr p) 38))
  go_enter Tryz.func16, Tryz.ntmps16
  go_upto_region 1 with fail
  change Code.wp _ _ _ _ (w.alloc (Obj.cells (arrPr p) 38))
  generalize w.alloc (Obj.cells (arrPr p) 38) = wa at *
  obtain ⟨d0, d1, d2, _, d7, d8, d9, d24⟩ := pr_cells B0.out
  have RF := Lib.hid (pr_full B0.out)
  go_cut [37] (fun v wx => ∃ b : Bool, v = .bool b ∧ (b = false → kidsB p = true ∧ numbersB p = true) ∧ Blk wx w.heap.size 38 (arrPr p) ∧ Below w.heap.size w wx)
  case first =>
    cases o1 : decide (p.op < 1) <;> cases o2 : decide (24 < p.op) <;> cases o3 : ((p.args.n : Int) == 0)
    all_goals go_wp2_with (first
      | ((with_reducible show wpList _ _ _ (⟨_, .load 38 _, _, _, _, _⟩ :: _) _ _); refine wpList_mid_w rfl 38 _ rfl w.heap.size 0 rfl _ _ RF.out Tryz.underlying38 rfl (by kernel_rfl) ?_)
      | (go_at_call 43; refine (kids_any p _).mono ?_; rintro e w1 ⟨rfl, hb⟩; replace B0 := Lib.hid (B0.out.step hb); replace BE := Lib.hid (BE.out.step' hb); replace RF := Lib.hid (pr_full B0.out); clear hb d0 d1 d2 d7 d8 d9 d24; obtain ⟨d0, d1, d2, _, d7, d8, d9, d24⟩ := pr_cells B0.out; cases hKB : kidsB p)
      | (go_at_call 44; refine (hasArgs_any _ _).mono ?_; rintro e w1 ⟨rfl, rfl⟩; obtain ⟨bb, hbb⟩ : ∃ b, b = hasArgsB p.op := ⟨_, rfl⟩; rw [← hbb]; clear hbb; cases bb)
      | (go_at_call 45; refine (numbers_any p _).mono ?_; rintro e w1 ⟨rfl, hb⟩; replace B0 := Lib.hid (B0.out.step hb); replace BE := Lib.hid (BE.out.step' hb); clear hb; cases hNB : numbersB p))
    all_goals go_meet
    all_goals first
      | exact ⟨true, rfl, fun h => by simp at h, B0.out, BE.out⟩
      | exact ⟨false, rfl, fun _ => ⟨hKB, hNB⟩, B0.out, BE.out⟩
      | exact ⟨_, rfl, fun _ => ⟨hKB, hNB⟩, B0.out, BE.out⟩
  case rest =>
    obtain ⟨b, rfl, hF, hB0, hBE⟩ := hcut
    clear B0 BE RF d0 d1 d2 d7 d8 d9 d24
    have B0 := Lib.hid hB0
    have BE := Lib.hid hBE
    have F1 := Lib.hid hF
    obtain ⟨d0, d1, d2, _, d7, d8, d9, d24⟩ := pr_cells B0.out
    clear hB0 hBE hF
    cases b
    · go_upto_region 3 with fail
      have HP := Lib.hid (W.out.path.step BE.out)
      go_cut [56] (fun v wx => ∃ b : Bool, v = .bool b ∧ wx = wc)
      case first =>
        cases el
        all_goals go_wp2_with (first
          | (go_at_call 46; refine (onPath_any _ _).mono ?_; rintro e w1 ⟨rfl, rfl⟩; obtain ⟨bb, hbb⟩ : ∃ b, b = onPathB p.op := ⟨_, rfl⟩; rw [← hbb]; clear hbb; cases bb)
          | (go_at_call 41; refine (rpath_any p.path.xs _ _ _ _ HP.out).mono ?_; rintro e w1 ⟨rfl, rfl⟩; obtain ⟨bb, hbb⟩ : ∃ b, b = pathB p.path.xs := ⟨_, rfl⟩; rw [← hbb]; clear hbb; cases bb))
        all_goals go_meet
        all_goals exact ⟨_, rfl, rfl⟩
      case rest =>
        obtain ⟨b, rfl, rfl⟩ := hcut
        cases b
        · go_upto_region 5 with fail
          have RA := Lib.hid (range_parg B0.out)
          have HA := Lib.hid (W.out.arg.step BE.out)
          go_cut [76] (fun v wx => ∃ b : Bool, v = .bool b ∧ (b = false → hasArgB p.op = true → validV p.arg.2 = true ∧ (hasTextB p.op = true → p.arg.1.k = 4)) ∧ Blk wx w.heap.size 38 (arrPr p) ∧ Below w.heap.size w wx)
          case first =>
            go_wp2_with (first
              | ((with_reducible show wpList _ _ _ (⟨_, .load 29 _, _, _, _, _⟩ :: _) _ _); refine wpList_mid_w rfl 29 _ rfl w.heap.size 2 rfl _ _ RA.out Tryz.underlying29 rfl (by kernel_rfl) ?_)
              | (go_at_call 47; refine (hasArg_any _ _).mono ?_; rintro e w1 ⟨rfl, rfl⟩; cases hAB : hasArgB p.op)
              | (go_at_call 48; refine (hasText_any _ _).mono ?_; rintro e w1 ⟨rfl, rfl⟩; cases hTB : hasTextB p.op)
              | (go_at_call 11; refine (rvalid_any p.arg.2 p.arg.1 _ HA.out).mono ?_; rintro e w1 ⟨rfl, hb⟩; replace B0 := Lib.hid (B0.out.step hb); replace BE := Lib.hid (BE.out.step' hb); clear hb d0 d1 d2 d7 d8 d9 d24; obtain ⟨d0, d1, d2, _, d7, d8, d9, d24⟩ := pr_cells B0.out; cases hVB : validV p.arg.2))
            all_goals go_meet
            all_goals first
              | exact ⟨true, rfl, fun h => by simp at h, B0.out, BE.out⟩
              | exact ⟨false, rfl, fun _ h => absurd (hAB.symm.trans h) (by decide), B0.out, BE.out⟩
              | exact ⟨false, rfl, fun _ _ => ⟨hVB, fun h => absurd (hTB.symm.trans h) (by decide)⟩, B0.out, BE.out⟩
              | exact ⟨_, rfl, fun h _ => ⟨hVB, fun _ => by simpa using h⟩, B0.out, BE.out⟩
          case rest =>
            obtain ⟨b, rfl, hF, hB0, hBE⟩ := hcut
            clear B0 BE d0 d1 d2 d7 d8 d9 d24 RA HA HP
            have B0 := Lib.hid hB0
            have BE := Lib.hid hBE
            have F5 := Lib.hid hF
            obtain ⟨d0, d1, d2, _, d7, d8, d9, d24⟩ := pr_cells B0.out
            clear hB0 hBE hF
            cases b
            · go_upto_block 0 with fail
              go_cut [5] (fun _ wx => (hasArgsB p.op = true → ∀ x ∈ p.args.xs, validV x.2 = true) ∧ Blk wx w.heap.size 38 (arrPr p) ∧ Below w.heap.size w wx)
              case first =>
                go_wp2_with fail
                go_loopw [5] (fun v wr => ∃ i : Nat, i ≤ p.args.n ∧ v = .int .i64 i ∧ (∀ (j : Nat) (x : PV), j < i → p.args.xs[j]? = some x → validV x.2 = true) ∧ Blk wr w.heap.size 38 (arrPr p) ∧ Below w.heap.size w wr) (fun v _ => p.args.n - (intOf v).toNat)
                case atStart => exact ⟨0, Nat.zero_le _, rfl, fun j _ h => absurd h (by omega), B0.out, BE.out⟩
                case round =>
                  obtain ⟨i, hi, rfl, hall, hB0, hBE⟩ := hrel
                  clear B0 BE d0 d1 d2 d7 d8 d9 d24
                  have B0 := Lib.hid hB0
                  have BE := Lib.hid hBE
                  have HALL := Lib.hid hall
                  obtain ⟨d0, d1, d2, _, d7, d8, d9, d24⟩ := pr_cells B0.out
                  clear hB0 hBE hall
                  by_cases hlt : i < p.args.n
                  · cases hSB : hasArgsB p.op
                    · go_wp2_with (go_at_call 44; refine (hasArgs_any _ _).mono ?_; rintro e w1 ⟨rfl, rfl⟩; rw [hSB])
                      go_meet
                      exact ⟨fun h => absurd (hSB.symm.trans h) (by decide), B0.out, BE.out⟩
                    · obtain ⟨b, off, x, hA, hb, hx, hm, hrg⟩ := W.out.args.sr.row hlt
                      have HX := Lib.hid hx
                      have RG := Lib.hid (range_step hrg BE.out hb)
                      have HV := Lib.hid ((W.out.args.rv x hm).step BE.out)
                      rw [hA] at d7
                      have HA := Lib.hid hA
                      clear hrg hA hx
                      go_wp2_with (first
                        | (go_at_call 44; refine (hasArgs_any _ _).mono ?_; rintro e w1 ⟨rfl, rfl⟩; rw [hSB])
                        | ((with_reducible show wpList _ _ _ (⟨_, .load 29 _, _, _, _, _⟩ :: _) _ _); refine wpList_mid_w rfl 29 _ rfl b (off + i * 5) rfl _ _ RG.out Tryz.underlying29 rfl (by kernel_rfl) ?_)
                        | (go_at_call 11; refine (rvalid_any x.2 x.1 _ HV.out).mono ?_; rintro e w1 ⟨rfl, hbb⟩; replace B0 := Lib.hid (B0.out.step hbb); replace BE := Lib.hid (BE.out.step' hbb); clear hbb; cases hVB : validV x.2))
                      · go_ret
                        exact NodeOk.no (by decide) BE.out
                      · go_roundw
                        case rel =>
                          refine ⟨i + 1, by omega, by go_num, fun j y hj hy => ?_, B0.out, BE.out⟩
                          by_cases hji : j = i
                          · subst hji
                            obtain rfl : y = x := by have := hy.symm.trans HX.out; simpa using this
                            exact hVB
                          · exact HALL.out j y (by omega) hy
                        case measure => simp [intOf]; omega
                  · obtain rfl : i = p.args.n := by omega
                    go_wp2_with fail
                    go_meet
                    refine ⟨fun _ x hx => ?_, B0.out, BE.out⟩
                    obtain ⟨j, hj, rfl⟩ := List.getElem_of_mem hx
                    exact HALL.out j _ (by have := W.out.args.sr.ln; omega) (List.getElem?_eq_getElem hj)
              case rest =>
                obtain ⟨hF, hB0, hBE⟩ := hcut
                clear B0 BE d0 d1 d2 d7 d8 d9 d24
                have B0 := Lib.hid hB0
                have BE := Lib.hid hBE
                have FA := Lib.hid hF
                have ND : Hid (NdF p) := Lib.hid ⟨(F1.out rfl).1, (F1.out rfl).2, F5.out rfl, FA.out⟩
                obtain ⟨d0, d1, d2, _, d7, d8, d9, d24⟩ := pr_cells B0.out
                clear hB0 hBE hF FA F1 F5
                go_upto_if 98 with fail
                go_cut [6] (fun _ wx => Blk wx w.heap.size 38 (arrPr p) ∧ Below w.heap.size w wx)
                case first =>
                  cases h18 : (p.op == 18)
                  · go_wp2_with fail
                    go_meet
                    exact ⟨B0.out, BE.out⟩
                  · have RS := Lib.hid (range_pshape B0.out)
                    have HSH := Lib.hid (shape_any p.sk p.sr p.pts wc (W.out.pts.step BE.out) W.out.psz)
                    go_wp2_with (first
                      | ((with_reducible show wpList _ _ _ (⟨_, .load 32 _, _, _, _, _⟩ :: _) _ _); refine wpList_mid_w rfl 32 _ rfl w.heap.size 10 rfl _ _ RS.out Tryz.underlying32 rfl (by kernel_rfl) ?_)
                      | (go_at_call 49; refine HSH.out.mono ?_; rintro e w1 ⟨er, rfl, hb⟩; replace B0 := Lib.hid (B0.out.step hb); replace BE := Lib.hid (BE.out.step' hb); clear hb; by_cases he : er = 0; (focus (subst he))))
                    · go_meet
                      exact ⟨B0.out, BE.out⟩
                    · have he' : (er != 0) = true := by simpa using he
                      have HE := Lib.hid he
                      clear he
                      go_wp2_with fail
                      go_ret
                      exact NodeOk.no HE.out BE.out
                case rest =>
                  obtain ⟨hB0, hBE⟩ := hcut
                  clear B0 BE d0 d1 d2 d7 d8 d9 d24
                  have B0 := Lib.hid hB0
                  have BE := Lib.hid hBE
                  obtain ⟨d0, d1, d2, _, d7, d8, d9, d24⟩ := pr_cells B0.out
                  have RF := Lib.hid (pr_full B0.out)
                  clear hB0 hBE
                  go_upto_if 107 with (first
                    | ((with_reducible show wpList _ _ _ (⟨_, .load 38 _, _, _, _, _⟩ :: _) _ _); refine wpList_mid_w rfl 38 _ rfl w.heap.size 0 rfl _ _ RF.out Tryz.underlying38 rfl (by kernel_rfl) ?_)
                    | (go_at_call 50; refine (unused_any p _).mono ?_; rintro e w1 ⟨bu, rfl, hb⟩; replace B0 := Lib.hid (B0.out.step hb); replace BE := Lib.hid (BE.out.step' hb); clear hb d0 d1 d2 d7 d8 d9 d24; obtain ⟨d0, d1, d2, _, d7, d8, d9, d24⟩ := pr_cells B0.out))
                  cases bu
                  · go_wp2_with fail
                    go_ret
                    exact NodeOk.no (by decide) BE.out
                  cases h24 : (p.op == 24)
                  · go_upto_region 21 with fail
                    go_loopw [7, 8] (fun v _ wr => ∃ i : Nat, i ≤ p.kn ∧ v = .int .i64 i ∧ (∀ (j : Nat) (k : PrT), j < i → p.kids[j]? = some k → VPr k) ∧ Blk wr w.heap.size 38 (arrPr p) ∧ Below w.heap.size w wr) (fun v _ _ => p.kn - (intOf v).toNat)
                    case atStart => exact ⟨0, Nat.zero_le _, rfl, fun j _ h => absurd h (by omega), B0.out, BE.out⟩
                    case round =>
                      obtain ⟨i, hi, rfl, hall, hB0, hBE⟩ := hrel
                      clear B0 BE d0 d1 d2 d7 d8 d9 d24 RF
                      have B0 := Lib.hid hB0
                      have BE := Lib.hid hBE
                      have HALL := Lib.hid hall
                      obtain ⟨d0, _, _, _, _, _, _, d24⟩ := pr_cells B0.out
                      clear hB0 hBE hall
                      by_cases hlt : i < p.kn
                      · obtain ⟨b, off, k, hA, hb, hx, hm, hrg⟩ := W.out.sr.row hlt
                        have HX := Lib.hid hx
                        have RG := Lib.hid (range_step hrg BE.out hb)
                        have HLB : Hid (b < wr.heap.size) := Lib.hid (Nat.lt_of_lt_of_le hb BE.out.size)
                        have IX := Lib.hid fun (el : Bool) (w' : World) (hw : Below wr.heap.size wr w') => IH.out k hm el w' ((W.out.kids k hm).step (BE.out.step' hw)) (HT.out.step (BE.out.step' hw))
                        rw [hA] at d24
                        have i0 : (0 : Int) ≤ (i : Int) := by omega
                        have i1 : (i : Int) < (p.kn : Int) := by omega
                        clear hrg hA hx
                        go_upto_region 23 with fail
                        have KS : Hid (∀ w', Below wr.heap.size wr w' → (Instr.loadAt 38 (.pointer (some ⟨b, off + i * 25, none⟩))).run Tryz.prog w' = .ok (.agg (recPr k).toArray) w' ∧ w'.cell? ⟨w.heap.size, 0, none⟩ = some (.int .i64 p.op) ∧ w'.cell? ⟨w.heap.size, 24, none⟩ = some (.slice (some ⟨b, off, none⟩) p.kn p.kc)) := Lib.hid fun w' hw =>
                          ⟨run_loadAt_mid w' b (off + i * 25) 38 (recPr k) _ (range_step RG.out hw HLB.out) Tryz.underlying38 rfl (by kernel_rfl), (hw.cell (p := ⟨w.heap.size, 0, none⟩) B0.out.lt).trans d0, (hw.cell (p := ⟨w.heap.size, 24, none⟩) B0.out.lt).trans d24⟩
                        have B := Lib.hid ((Below.refl wr.heap.size wr).drewN 1)
                        clear d0 d24
                        cases el
                        · cases h15 : (p.op == 15)
                          all_goals
                            refine wp_region_noPanic ?_
                            refine wp_region_held_drew (S := (fun w' => (Instr.loadAt 38 (.pointer (some ⟨b, off + i * 25, none⟩))).run Tryz.prog w' = .ok (.agg (recPr k).toArray) w' ∧ w'.cell? ⟨w.heap.size, 0, none⟩ = some (.int .i64 p.op) ∧ w'.cell? ⟨w.heap.size, 24, none⟩ = some (.slice (some ⟨b, off, none⟩) p.kn p.kc))) (by kernel_rfl) ?_ (fun hHeld => ?_)
                            · (try dsimp only); exact KS.out _ B.out
                            refine wpAnyH_take (i := 0) (v := ?_) (take_at rfl) (by kernel_rfl) (by kernel_rfl) (by kernel_rfl) (fun _ _ _ h => h) (Or.inl ⟨by rfl, ?_⟩) (by assumption) ?_
                            rotate_left
                            · intro w' hSw; (try dsimp only at hSw); obtain ⟨_, hSw1, hSw2⟩ := hSw; go_simp; (try with_reducible rfl)
                            (try simp only [Act.put, List.setIfInBounds_toArray, List.set_cons_zero, List.set_cons_succ])
                            refine wpAnyH_take (i := 1) (v := ?_) (take_at rfl) (by kernel_rfl) (by kernel_rfl) (by kernel_rfl) (fun _ _ _ h => h) (Or.inl ⟨by rfl, ?_⟩) (by assumption) ?_
                            rotate_left
                            · intro w' hSw; (try dsimp only at hSw); obtain ⟨_, hSw1, hSw2⟩ := hSw; go_simp; (try with_reducible rfl)
                            (try simp only [Act.put, List.setIfInBounds_toArray, List.set_cons_zero, List.set_cons_succ])
                            refine wpAnyH_take (i := 2) (v := ?_) (take_at rfl) (by kernel_rfl) (by kernel_rfl) (by kernel_rfl) (fun _ _ _ h => h) (Or.inl ⟨by rfl, ?_⟩) (by assumption) ?_
                            rotate_left
                            · intro w' hSw; (try dsimp only at hSw); obtain ⟨_, hSw1, hSw2⟩ := hSw; go_simp; (try with_reducible rfl)
                            (try simp only [Act.put, List.setIfInBounds_toArray, List.set_cons_zero, List.set_cons_succ])
                            refine wpAnyH_take (i := 3) (v := ?_) (take_at rfl) (by kernel_rfl) (by kernel_rfl) (by kernel_rfl) (fun _ _ _ h => h) (Or.inl ⟨by rfl, ?_⟩) (by assumption) ?_
                            rotate_left
                            · intro w' hSw; (try dsimp only at hSw); obtain ⟨_, hSw1, hSw2⟩ := hSw; go_simp; (try with_reducible rfl)
                            (try simp only [Act.put, List.setIfInBounds_toArray, List.set_cons_zero, List.set_cons_succ])
                            refine wpAnyH_take (i := 4) (v := .agg (recPr k).toArray) (take_at rfl) (by kernel_rfl) (by kernel_rfl) (by kernel_rfl) (fun _ _ _ h => h) (Or.inl ⟨by rfl, ?_⟩) (by assumption) ?_
                            (skip)
                            · intro w' hSw; exact exec_load (p := .pointer (some ⟨b, off + i * 25, none⟩)) rfl rfl hSw.1
                            (try simp only [Act.put, List.setIfInBounds_toArray, List.set_cons_zero, List.set_cons_succ])
                            refine wpAnyH_take (i := 5) (v := ?_) (take_at rfl) (by kernel_rfl) (by kernel_rfl) (by kernel_rfl) (fun _ _ _ h => h) (Or.inl ⟨by rfl, ?_⟩) (by assumption) ?_
                            rotate_left
                            · intro w' hSw; (try dsimp only at hSw); obtain ⟨_, hSw1, hSw2⟩ := hSw; go_simp; (try with_reducible rfl)
                            (try simp only [Act.put, List.setIfInBounds_toArray, List.set_cons_zero, List.set_cons_succ])
                            refine wpAnyH_take (i := 6) (v := ?_) (take_at rfl) (by kernel_rfl) (by kernel_rfl) (by kernel_rfl) (fun _ _ _ h => h) (Or.inl ⟨by rfl, ?_⟩) (by assumption) ?_
                            rotate_left
                            · intro w' hSw; (try dsimp only at hSw); obtain ⟨_, hSw1, hSw2⟩ := hSw; go_simp; (try with_reducible rfl)
                            (try simp only [Act.put, List.setIfInBounds_toArray, List.set_cons_zero, List.set_cons_succ])
                            refine wpAnyH_take (i := 7) (v := ?_) (take_at rfl) (by kernel_rfl) (by kernel_rfl) (by kernel_rfl) (fun _ _ _ h => h) (Or.inl ⟨by rfl, ?_⟩) (by assumption) ?_
                            rotate_left
                            · intro w' hSw; (try dsimp only at hSw); obtain ⟨_, hSw1, hSw2⟩ := hSw; go_simp; (try with_reducible rfl)
                            (try simp only [Act.put, List.setIfInBounds_toArray, List.set_cons_zero, List.set_cons_succ])
                            refine wpAnyH_take (i := 8) (v := ?_) (take_at rfl) (by kernel_rfl) (by kernel_rfl) (by kernel_rfl) (fun _ _ _ h => h) (Or.inl ⟨by rfl, ?_⟩) (by assumption) ?_
                            rotate_left
                            · intro w' hSw; (try dsimp only at hSw); obtain ⟨_, hSw1, hSw2⟩ := hSw; go_simp; (try with_reducible rfl)
                            (try simp only [Act.put, List.setIfInBounds_toArray, List.set_cons_zero, List.set_cons_succ])
                            refine wpAnyH_take (i := 9) (v := ?_) (take_at rfl) (by kernel_rfl) (by kernel_rfl) (by kernel_rfl) (fun _ _ _ h => h) (Or.inl ⟨by rfl, ?_⟩) (by assumption) ?_
                            rotate_left
                            · intro w' hSw; (try dsimp only at hSw); obtain ⟨_, hSw1, hSw2⟩ := hSw; go_simp; (try with_reducible rfl)
                            (try simp only [Act.put, List.setIfInBounds_toArray, List.set_cons_zero, List.set_cons_succ])
                            refine wpAnyH_take (i := 10) (v := ?_) (take_at rfl) (by kernel_rfl) (by kernel_rfl) (by kernel_rfl) (fun _ _ _ h => h) (Or.inl ⟨by rfl, ?_⟩) (by assumption) ?_
                            rotate_left
                            · intro w' hSw; (try dsimp only at hSw); obtain ⟨_, hSw1, hSw2⟩ := hSw; go_simp; (try with_reducible rfl)
                            (try simp only [Act.put, List.setIfInBounds_toArray, List.set_cons_zero, List.set_cons_succ])
                            refine wpAnyH_ready (rs := [11]) (by kernel_rfl) (by simp) ?_
                            refine AllReadyH.cons (take_at rfl) (fun K hK => ?_) AllReadyH.nil
                            go_simp
                            refine (IX.out _ _ B.out).mono ?_
                            rintro e3 w3 ⟨er, rfl, hn, hb3⟩
                            replace B := Lib.hid (B.out.step' hb3)
                            have HN := Lib.hid hn
                            clear hb3 hn
                            (try go_wp2_with fail)
                            refine hK.out _ _ ?_ (fun hHeld2 => ?_)
                            · (try dsimp only); exact KS.out _ B.out
                            clear hK K hHeld
                            have hHeld := hHeld2
                            clear hHeld2
                            (try simp only [Act.put, List.setIfInBounds_toArray, List.set_cons_zero, List.set_cons_succ])
                            refine wpAnyH_take (i := 12) (v := ?_) (take_at rfl) (by kernel_rfl) (by kernel_rfl) (by kernel_rfl) (fun _ _ _ h => h) (Or.inl ⟨by rfl, ?_⟩) (by assumption) ?_
                            rotate_left
                            · intro w' hSw; (try dsimp only at hSw); go_simp; (try with_reducible rfl)
                            (try simp only [Act.put, List.setIfInBounds_toArray, List.set_cons_zero, List.set_cons_succ])
                            refine wpAnyH_done (by kernel_rfl) ?_ _
                            refine NoPanic.normal ?_
                            clear hHeld
                            by_cases he : er = 0
                            · subst he
                              go_wp2_with fail
                              go_roundw
                              case rel =>
                                refine ⟨i + 1, by omega, by go_num, fun j y hj hy => ?_, B0.out.step B.out, BE.out.step' B.out⟩
                                by_cases hji : j = i
                                · subst hji
                                  obtain rfl : y = k := by have := hy.symm.trans HX.out; simpa using this
                                  exact (by have h := HN.out; simpa using h)
                                · exact HALL.out j y (by omega) hy
                              case measure => simp [intOf]; omega
                            · have he' : (er != 0) = true := by simpa using he
                              have HE := Lib.hid he
                              clear he
                              go_wp2_with fail
                              go_ret
                              exact NodeOk.no HE.out (BE.out.step' B.out)
                        · refine wp_region_noPanic ?_
                          refine wp_region_held_drew (S := (fun w' => (Instr.loadAt 38 (.pointer (some ⟨b, off + i * 25, none⟩))).run Tryz.prog w' = .ok (.agg (recPr k).toArray) w' ∧ w'.cell? ⟨w.heap.size, 0, none⟩ = some (.int .i64 p.op) ∧ w'.cell? ⟨w.heap.size, 24, none⟩ = some (.slice (some ⟨b, off, none⟩) p.kn p.kc))) (by kernel_rfl) ?_ (fun hHeld => ?_)
                          · (try dsimp only); exact KS.out _ B.out
                          refine wpAnyH_take (i := 0) (v := ?_) (take_at rfl) (by kernel_rfl) (by kernel_rfl) (by kernel_rfl) (fun _ _ _ h => h) (Or.inl ⟨by rfl, ?_⟩) (by assumption) ?_
                          rotate_left
                          · intro w' hSw; (try dsimp only at hSw); obtain ⟨_, hSw1, hSw2⟩ := hSw; go_simp; (try with_reducible rfl)
                          (try simp only [Act.put, List.setIfInBounds_toArray, List.set_cons_zero, List.set_cons_succ])
                          refine wpAnyH_take (i := 1) (v := ?_) (take_at rfl) (by kernel_rfl) (by kernel_rfl) (by kernel_rfl) (fun _ _ _ h => h) (Or.inl ⟨by rfl, ?_⟩) (by assumption) ?_
                          rotate_left
                          · intro w' hSw; (try dsimp only at hSw); obtain ⟨_, hSw1, hSw2⟩ := hSw; go_simp; (try with_reducible rfl)
                          (try simp only [Act.put, List.setIfInBounds_toArray, List.set_cons_zero, List.set_cons_succ])
                          refine wpAnyH_take (i := 2) (v := ?_) (take_at rfl) (by kernel_rfl) (by kernel_rfl) (by kernel_rfl) (fun _ _ _ h => h) (Or.inl ⟨by rfl, ?_⟩) (by assumption) ?_
                          rotate_left
                          · intro w' hSw; (try dsimp only at hSw); obtain ⟨_, hSw1, hSw2⟩ := hSw; go_simp; (try with_reducible rfl)
                          (try simp only [Act.put, List.setIfInBounds_toArray, List.set_cons_zero, List.set_cons_succ])
                          refine wpAnyH_take (i := 3) (v := ?_) (take_at rfl) (by kernel_rfl) (by kernel_rfl) (by kernel_rfl) (fun _ _ _ h => h) (Or.inl ⟨by rfl, ?_⟩) (by assumption) ?_
                          rotate_left
                          · intro w' hSw; (try dsimp only at hSw); obtain ⟨_, hSw1, hSw2⟩ := hSw; go_simp; (try with_reducible rfl)
                          (try simp only [Act.put, List.setIfInBounds_toArray, List.set_cons_zero, List.set_cons_succ])
                          refine wpAnyH_take (i := 4) (v := .agg (recPr k).toArray) (take_at rfl) (by kernel_rfl) (by kernel_rfl) (by kernel_rfl) (fun _ _ _ h => h) (Or.inl ⟨by rfl, ?_⟩) (by assumption) ?_
                          (skip)
                          · intro w' hSw; exact exec_load (p := .pointer (some ⟨b, off + i * 25, none⟩)) rfl rfl hSw.1
                          (try simp only [Act.put, List.setIfInBounds_toArray, List.set_cons_zero, List.set_cons_succ])
                          refine wpAnyH_take (i := 5) (v := ?_) (take_at rfl) (by kernel_rfl) (by kernel_rfl) (by kernel_rfl) (fun _ _ _ h => h) (Or.inl ⟨by rfl, ?_⟩) (by assumption) ?_
                          rotate_left
                          · intro w' hSw; (try dsimp only at hSw); obtain ⟨_, hSw1, hSw2⟩ := hSw; go_simp; (try with_reducible rfl)
                          (try simp only [Act.put, List.setIfInBounds_toArray, List.set_cons_zero, List.set_cons_succ])
                          refine wpAnyH_take (i := 6) (v := ?_) (take_at rfl) (by kernel_rfl) (by kernel_rfl) (by kernel_rfl) (fun _ _ _ h => h) (Or.inl ⟨by rfl, ?_⟩) (by assumption) ?_
                          rotate_left
                          · intro w' hSw; (try dsimp only at hSw); obtain ⟨_, hSw1, hSw2⟩ := hSw; go_simp; (try with_reducible rfl)
                          (try simp only [Act.put, List.setIfInBounds_toArray, List.set_cons_zero, List.set_cons_succ])
                          refine wpAnyH_take (i := 7) (v := undef) (take_at rfl) (by kernel_rfl) (by kernel_rfl) (by kernel_rfl) (fun _ _ _ h => h) (Or.inr ⟨by rfl, rfl⟩) (by assumption) ?_
                          (try simp only [Act.put, List.setIfInBounds_toArray, List.set_cons_zero, List.set_cons_succ])
                          refine wpAnyH_take (i := 8) (v := undef) (take_at rfl) (by kernel_rfl) (by kernel_rfl) (by kernel_rfl) (fun _ _ _ h => h) (Or.inr ⟨by rfl, rfl⟩) (by assumption) ?_
                          (try simp only [Act.put, List.setIfInBounds_toArray, List.set_cons_zero, List.set_cons_succ])
                          refine wpAnyH_take (i := 9) (v := undef) (take_at rfl) (by kernel_rfl) (by kernel_rfl) (by kernel_rfl) (fun _ _ _ h => h) (Or.inr ⟨by rfl, rfl⟩) (by assumption) ?_
                          (try simp only [Act.put, List.setIfInBounds_toArray, List.set_cons_zero, List.set_cons_succ])
                          refine wpAnyH_take (i := 10) (v := ?_) (take_at rfl) (by kernel_rfl) (by kernel_rfl) (by kernel_rfl) (fun _ _ _ h => h) (Or.inl ⟨by rfl, ?_⟩) (by assumption) ?_
                          rotate_left
                          · intro w' hSw; (try dsimp only at hSw); obtain ⟨_, hSw1, hSw2⟩ := hSw; go_simp; (try with_reducible rfl)
                          (try simp only [Act.put, List.setIfInBounds_toArray, List.set_cons_zero, List.set_cons_succ])
                          refine wpAnyH_ready (rs := [11]) (by kernel_rfl) (by simp) ?_
                          refine AllReadyH.cons (take_at rfl) (fun K hK => ?_) AllReadyH.nil
                          go_simp
                          refine (IX.out _ _ B.out).mono ?_
                          rintro e3 w3 ⟨er, rfl, hn, hb3⟩
                          replace B := Lib.hid (B.out.step' hb3)
                          have HN := Lib.hid hn
                          clear hb3 hn
                          (try go_wp2_with fail)
                          refine hK.out _ _ ?_ (fun hHeld2 => ?_)
                          · (try dsimp only); exact KS.out _ B.out
                          clear hK K hHeld
                          have hHeld := hHeld2
                          clear hHeld2
                          (try simp only [Act.put, List.setIfInBounds_toArray, List.set_cons_zero, List.set_cons_succ])
                          refine wpAnyH_take (i := 12) (v := ?_) (take_at rfl) (by kernel_rfl) (by kernel_rfl) (by kernel_rfl) (fun _ _ _ h => h) (Or.inl ⟨by rfl, ?_⟩) (by assumption) ?_
                          rotate_left
                          · intro w' hSw; (try dsimp only at hSw); go_simp; (try with_reducible rfl)
                          (try simp only [Act.put, List.setIfInBounds_toArray, List.set_cons_zero, List.set_cons_succ])
                          refine wpAnyH_done (by kernel_rfl) ?_ _
                          refine NoPanic.normal ?_
                          clear hHeld
                          by_cases he : er = 0
                          · subst he
                            go_wp2_with fail
                            go_roundw
                            case rel =>
                              refine ⟨i + 1, by omega, by go_num, fun j y hj hy => ?_, B0.out.step B.out, BE.out.step' B.out⟩
                              by_cases hji : j = i
                              · subst hji
                                obtain rfl : y = k := by have := hy.symm.trans HX.out; simpa using this
                                exact (by have h := HN.out; simpa using h)
                              · exact HALL.out j y (by omega) hy
                            case measure => simp [intOf]; omega
                          · have he' : (er != 0) = true := by simpa using he
                            have HE := Lib.hid he
                            clear he
                            go_wp2_with fail
                            go_ret
                            exact NodeOk.no HE.out (BE.out.step' B.out)
                      · obtain rfl : i = p.kn := by omega
                        go_wp2_with fail
                        go_ret
                        refine ⟨0, rfl, fun _ => ND.out.vpr W.out fun _ k hk => ?_, BE.out⟩
                        obtain ⟨j, hj, rfl⟩ := List.getElem_of_mem hk
                        exact HALL.out j _ (by have := W.out.sr.ln; omega) (List.getElem?_eq_getElem hj)
                  · have RE := Lib.hid (range_pex B0.out)
                    have HV8 := Lib.hid fun wr (hb : Below w.heap.size w wr) => valid8_any p.ex wr (W.out.ex.step hb) (HT.out.step hb)
                    go_wp2_with (first
                      | ((with_reducible show wpList _ _ _ (⟨_, .load 35 _, _, _, _, _⟩ :: _) _ _); refine wpList_mid_w rfl 35 _ rfl w.heap.size 13 rfl _ _ RE.out Tryz.underlying35 rfl (by kernel_rfl) ?_)
                      | (go_at_call 51; refine (HV8.out _ BE.out).mono ?_; rintro e w1 ⟨er, rfl, hb⟩; replace BE := Lib.hid (BE.out.step' hb); clear hb))
                    go_ret
                    exact ⟨er, rfl, fun _ => ND.out.vpr W.out (fun h => absurd h (by have e : p.op = 24 := (by simpa using h24); omega)), BE.out⟩
            · go_wp2_with fail
              go_ret
              exact NodeOk.no (by decide) BE.out
        · go_wp2_with fail
          go_ret
          exact NodeOk.no (by decide) BE.out
    · go_wp2_with fail
      go_ret
      exact NodeOk.no (by decide) BE.out
end Go.Proofs.YtfkapannahcjiaaGreatDoor



/- The reference's count of the nodes of a predicate, and its Valid. -/
namespace Go.Proofs.YtfkapannahcjiaaGreatDoor
open Go.RowKit
set_option linter.unusedSimpArgs false

set_option maxRecDepth 100000 in
set_option maxHeartbeats 4000000 in
theorem pcnt_any (p : PrT) : ∀ (lv lf : Int) (w : World), WP w p → 0 ≤ lv → lv ≤ 1000 → -1 ≤ lf → lf ≤ 1000 → Calls Tryz.prog 15 #[aggPr p, .int .i64 lv, .int .i64 lf] w (CountOk p lf w) := by
  induction p using PrT.ind with
  | h p ih =>
  intro lv lf w hw h1 h2 h3 h4
  have W := Lib.hid hw.open
  have IH := Lib.hid ih
  have hkn := Lib.hid W.out.sr.ln
  have hkz : p.kn ≤ 140737488355328 := by have := W.out.ksz; unfold reach at this; omega
  clear ih hw
  have B0 : Hid (Blk (w.alloc (Obj.cells (arrPr p) 38)) w.heap.size 38 (arrPr p)) := Blk.new_at rfl
  have BE := Lib.hid ((Below.refl w.heap.size w).alloc (Nat.le_refl _) (Obj.cells (arrPr p) 38))
  go_enter Tryz.func15, Tryz.ntmps15
  go_upto_region 1 with fail
  change Code.wp _ _ _ _ (w.alloc (Obj.cells (arrPr p) 38))
  generalize w.alloc (Obj.cells (arrPr p) 38) = wa at *
  by_cases hz0 : lv = 0
  · subst hz0
    go_wp2_with fail
    go_ret
    exact ⟨-1, rfl, by omega, by omega, fun h => absurd h (by omega), BE.out⟩
  by_cases hz : lf ≤ 0
  · have g1 : (lv == 0) = false := by simpa using hz0
    clear hz0
    go_wp2_with fail
    go_ret
    exact ⟨-1, rfl, by omega, by omega, fun h => absurd h (by omega), BE.out⟩
  · have g1 : (lv == 0) = false := by simp; omega
    have g2 : ¬ lf ≤ 0 := by omega
    have g3 : wrap64 (lf - 1) = lf - 1 := by unfold wrap64; omega
    have g4 : wrap64 (lv - 1) = lv - 1 := by unfold wrap64; omega
    go_upto_region 5 with fail
    (try rw [g3])
    go_loopw [2, 7] (fun v2 v7 wr => ∃ (i : Nat) (r : Int), i ≤ p.kn ∧ v2 = .int .i64 r ∧ v7 = .int .i64 i ∧ CtI p lf w i r wr) (fun _ v7 _ => p.kn - (intOf v7).toNat)
    case atStart => exact ⟨0, lf - 1, Nat.zero_le _, rfl, rfl, B0.out, BE.out, by omega, by omega, fun _ => by simp [PrT.nodes.nodesL]⟩
    case round =>
      obtain ⟨i, r, hi, rfl, rfl, hI⟩ := hrel
      have HI := Lib.hid hI
      obtain ⟨_, _, _, _, _, _, _, d24⟩ := pr_cells hI.b0
      have rlo := hI.lo
      have rhi := hI.hi
      clear hI
      by_cases hlt : i < p.kn
      · by_cases hr : 0 ≤ r
        · obtain ⟨b, off, x, hA, hb, hx, hm, hrg⟩ := W.out.sr.row hlt
          have RG := Lib.hid (range_step (hrg) HI.out.bel hb)
          have HX := Lib.hid hx
          have KW := Lib.hid ((W.out.kids x hm).step HI.out.bel)
          have IX := Lib.hid (IH.out x hm)
          rw [hA] at d24
          clear hrg hx hm hA
          go_wp2_with (first
            | ((with_reducible show wpList _ _ _ (⟨_, .load 38 _, _, _, _, _⟩ :: _) _ _); refine wpList_mid_w rfl 38 _ rfl b (off + i * 25) rfl _ _ RG.out Tryz.underlying38 rfl (by kernel_rfl) ?_)
            | (go_at_call 15; (try rw [g4]); refine (IX.out (lv - 1) r _ KW.out (by omega) (by omega) rlo rhi).mono ?_; rintro e w1 ⟨r', rfl, hr1, hr2, hr3, hbb⟩; have H3 := Lib.hid hr3; have HB := Lib.hid hbb; clear hr3 hbb))
          go_roundw
          case rel =>
            refine ⟨i + 1, r', by omega, rfl, by go_num, HI.out.b0.step HB.out, HI.out.bel.step' HB.out, hr1, hr2, fun h => ?_⟩
            have e1 := H3.out h
            have e2 := HI.out.eq hr
            have e3 := nodesL_take HX.out
            omega
          case measure => simp [intOf]; omega
        · go_wp2_with fail
          go_ret
          exact ⟨r, rfl, rlo, rhi, fun h => absurd h (by omega), HI.out.bel⟩
      · obtain rfl : i = p.kn := by omega
        go_wp2_with fail
        go_ret
        refine ⟨r, rfl, rlo, rhi, fun h => ?_, HI.out.bel⟩
        have e := HI.out.eq h
        rw [hkn.out, List.take_length] at e
        rw [p.nodes_eq]
        omega
set_option maxRecDepth 100000 in
set_option maxHeartbeats 2000000 in
/-- the reference's Valid of a predicate: zero only if it is valid and small -/
theorem rpred_any (p : PrT) (w : World) (h : WP w p) (hT : Tabs w) : Calls Tryz.prog 7 #[aggPr p] w fun e w' => ∃ n : Int, e = .returned (.int .i64 n) ∧ (n = 0 → VPr p ∧ p.nodes ≤ 256) ∧ Below w.heap.size w w' := by
  have HT := Lib.hid hT
  have HW := Lib.hid h
  clear h hT
  have B0 : Hid (Blk (w.alloc (Obj.cells (arrPr p) 38)) w.heap.size 38 (arrPr p)) := Blk.new_at rfl
  have BE := Lib.hid ((Below.refl w.heap.size w).alloc (Nat.le_refl _) (Obj.cells (arrPr p) 38))
  go_enter Tryz.func7, Tryz.ntmps7
  go_upto_region 1 with fail
  change Code.wp _ _ _ _ (w.alloc (Obj.cells (arrPr p) 38))
  generalize w.alloc (Obj.cells (arrPr p) 38) = wa at *
  have RF := Lib.hid (pr_full B0.out)
  go_upto_if 5 with (first
    | ((with_reducible show wpList _ _ _ (⟨_, .load 38 _, _, _, _, _⟩ :: _) _ _); refine wpList_mid_w rfl 38 _ rfl w.heap.size 0 rfl _ _ RF.out Tryz.underlying38 rfl (by kernel_rfl) ?_)
    | (go_at_call 15; refine (pcnt_any p 16 256 _ (HW.out.step BE.out) (by omega) (by omega) (by omega) (by omega)).mono ?_; rintro e w1 ⟨r, rfl, hr1, hr2, hr3, hb⟩; replace B0 := Lib.hid (B0.out.step hb); replace BE := Lib.hid (BE.out.step' hb); have HR := Lib.hid hr3; replace RF := Lib.hid (pr_full B0.out); clear hb hr3))
  by_cases hneg : r < 0
  · go_wp2_with fail
    go_ret
    exact ⟨2, rfl, fun h => absurd h (by decide), BE.out⟩
  · have HN : Hid (p.nodes ≤ 256) := by have := HR.out (by omega); exact Lib.hid (by omega)
    go_wp2_with (first
      | ((with_reducible show wpList _ _ _ (⟨_, .load 38 _, _, _, _, _⟩ :: _) _ _); refine wpList_mid_w rfl 38 _ rfl w.heap.size 0 rfl _ _ RF.out Tryz.underlying38 rfl (by kernel_rfl) ?_)
      | (go_at_call 16; refine (node13_any p false _ (HW.out.step BE.out) (HT.out.step BE.out)).mono ?_; rintro e w1 ⟨n, rfl, hn, hb⟩; replace BE := Lib.hid (BE.out.step' hb); have HV := Lib.hid hn; clear hb hn))
    go_ret
    exact ⟨n, rfl, fun h => ⟨HV.out h, HN.out⟩, BE.out⟩
end Go.Proofs.YtfkapannahcjiaaGreatDoor



/- What the first checks of the layers shardkey and router compute, at closed arguments. -/
namespace Go.Proofs.YtfkapannahcjiaaGreatDoor
open Go.RowKit

def ka : ByteArray := ⟨#[97]⟩
def vIk (n : Int) : Val := .mk 3 n ByteArray.empty [] []
def cIk (n : Int) : VC := ⟨3, n, ByteArray.empty, none, 0, 0, none, 0, 0⟩
def vD (n : Int) : Val := .mk 5 0 ByteArray.empty [] [.mk ka (vIk n)]
def ks1 : List Od := [⟨[ka], false⟩]
theorem sound_i (n : Int) : SoundV nameB (vIk n) := (SoundV_iff _ _).2 ⟨⟨.inl rfl, .inr (.inr (.inr rfl)), .inr rfl, .inr rfl, .inr (.inr (.inr (.inl rfl)))⟩, by simp [vIk, Val.l], by simp [vIk, Val.d], by simp [vIk, Val.d, NamesP]⟩
theorem sound_null : SoundV nameB nullV := (SoundV_iff _ _).2 ⟨by simp [HeadP, nullV, Val.k, Val.n, Val.t, Val.l, Val.d], by simp [nullV, Val.l], by simp [nullV, Val.d], by simp [nullV, Val.d, NamesP]⟩
theorem sound_d (n : Int) : SoundV nameB (vD n) := (SoundV_iff _ _).2 ⟨⟨.inr (.inr (.inr rfl)), .inr (.inr (.inr rfl)), .inr rfl, .inl rfl, by simp [vD, Val.k]⟩, by simp [vD, Val.l], by intro f hf; simp [vD, Val.d] at hf; subst hf; exact sound_i n, by
    refine ⟨fun f hf => ?_, by simp [vD, Val.d]⟩
    simp [vD, Val.d] at hf
    subst hf
    show nameB ka = true
    kernel_rfl⟩
theorem valid_i (n : Int) : validV (vIk n) = true := by
  have h1 : (vIk n).size = 1 := by simp [vIk, Val.size]
  have h2 : (vIk n).height = 1 := by simp [vIk, Val.height]
  unfold validV
  rw [decide_eq_true (by omega), decide_eq_true (by omega), soundB_true (sound_i n)]
  rfl
theorem valid_null : validV nullV = true := by
  have h1 : nullV.size = 1 := by simp [nullV, Val.size]
  have h2 : nullV.height = 1 := by simp [nullV, Val.height]
  unfold validV
  rw [decide_eq_true (by omega), decide_eq_true (by omega), soundB_true sound_null]
  rfl
theorem valid_dn (n : Int) : validV (vD n) = true := by
  have h1 : (vD n).size = 2 := by simp [vD, vIk, Val.size, sizeD, sizeF]
  have h2 : (vD n).height = 2 := by simp [vD, vIk, Val.height, heightD, heightF]
  unfold validV
  rw [decide_eq_true (by omega), decide_eq_true (by omega), soundB_true (sound_d n)]
  rfl
theorem allow_valid {x : Val} (h : validV x = true) : allowB x = true := by unfold allowB; rw [h, Bool.or_true]
theorem keyR_i (n : Int) : keyR [vIk n] = (strOfNums (encAll [vIk n]), 0) := keyR_yes (by unfold allowsB; simp [allow_valid (valid_i n)])
theorem at_d (n : Int) : keyAt (vD n) [ka] = some (vIk n) := by
  have h : getV (vD n) ka = some (vIk n) := by
    refine getV_some (j := 0) (f := .mk ka (vIk n)) ?_ rfl
    kernel_rfl
  rw [keyAt_some (by show (5 : Int) ≠ 6; decide) h, keyAt_end (by show (3 : Int) ≠ 6; decide)]
theorem vals_d (n : Int) : valsR ks1 (vD n) = some [vIk n] := by
  rw [valsR_yes rfl (valid_dn n), ks1, valsAt, at_d]
  rfl
theorem enc_d (n : Int) : encR ks1 false (vD n) = (strOfNums (encAll [vIk n]), 0) := by rw [encR_some (vals_d n), hashes_no, keyR_i]
theorem key5_eq : strOfNums (encAll [vIk 5]) = ⟨#[3, 128, 0, 0, 0, 0, 0, 0, 5]⟩ := by kernel_rfl
theorem hash_diff : hashV nullV ≠ hashV (vIk 5) := by
  unfold hashV
  rw [if_pos (allow_valid valid_null), if_pos (allow_valid (valid_i 5))]
  have h : (((crcSum (strOfNums (encV nullV)) : Nat) : Int) == ((crcSum (strOfNums (encV (vIk 5))) : Nat) : Int)) = false := by kernel_rfl
  simpa using h
theorem keyE_ks1 : keyE ks1 false = 0 := by kernel_rfl
theorem keyE_nil : keyE [] false = 11 := by kernel_rfl
end Go.Proofs.YtfkapannahcjiaaGreatDoor



/- The key of the first checks, in memory. -/
namespace Go.Proofs.YtfkapannahcjiaaGreatDoor
open Go.RowKit

theorem st_ka {w : World} {g : Nat} (h : Blk w g 9 #[.string ka]) : ST w (some ⟨g, 0, none⟩) 1 1 [ka] := by
  refine ⟨⟨rfl, Nat.le_refl _, fun _ => ⟨g, 0, rfl, h.lt, fun i a hi j v hj => ?_⟩⟩, by show 1 * 16 ≤ reach; decide, fun s hs => ?_⟩
  · cases i with
    | zero =>
      simp at hi
      subst hi
      cases j with
      | zero => simp [recT] at hj; subst hj; exact h.cell 0
      | succ j => simp [recT] at hj
    | succ i => simp at hi
  · simp at hs; subst hs; show 1 ≤ reach; decide
theorem ks_ka {w : World} {g1 g2 : Nat} (h1 : Blk w g1 9 #[.string ka]) (h2 : Blk w g2 54 #[.slice (some ⟨g1, 0, none⟩) 1 1, .bool false]) : KS w (some ⟨g2, 0, none⟩) 1 1 ks1 := by
  refine ⟨[⟨some ⟨g1, 0, none⟩, 1, 1, false⟩], ⟨⟨rfl, Nat.le_refl _, fun _ => ⟨g2, 0, rfl, h2.lt, fun i a hi j v hj => ?_⟩⟩, by show 1 * 32 ≤ reach; decide, rfl, fun i o q ho hq => ?_⟩⟩
  · cases i with
    | zero =>
      simp at hi
      subst hi
      match j, hj with
      | 0, hj => simp [recO] at hj; subst hj; exact h2.cell 0
      | 1, hj => simp [recO] at hj; subst hj; exact h2.cell 1
      | j + 2, hj => simp [recO] at hj
    | succ i => simp at hi
  · cases i with
    | zero =>
      simp at ho
      simp [ks1] at hq
      subst ho hq
      exact ⟨rfl, st_ka h1⟩
    | succ i => simp at ho
theorem rw_i {F : Nat → Prop} (n : Int) (w : World) : RV F w (cIk n) (vIk n) := RVs.shut ⟨rfl, rfl, rfl, by show 0 ≤ reach; decide, rfl, Nat.le_refl _, by show 0 * 80 ≤ reach; decide, fun h => absurd h (by show ¬ (0 < 0); omega), rfl, Nat.le_refl _, by show 0 * 96 ≤ reach; decide, fun h => absurd h (by show ¬ (0 < 0); omega)⟩
abbrev cD (g : Nat) : VC := ⟨5, 0, ByteArray.empty, none, 0, 0, some ⟨g, 0, none⟩, 1, 1⟩
theorem rw_d {w : World} {g : Nat} {n : Int} (h : Blk w g 59 #[.string ka, .int .i64 3, .int .i64 n, .string ByteArray.empty, .slice none 0 0, .slice none 0 0]) : RW w (cD g) (vD n) := by
  refine RVs.shut ⟨rfl, rfl, rfl, by show 0 ≤ reach; decide, rfl, Nat.le_refl _, by show 0 * 80 ≤ reach; decide, fun h => absurd h (by show ¬ (0 < 0); omega), rfl, Nat.le_refl _, by show 1 * 96 ≤ reach; decide, fun _ => ⟨g, 0, rfl, Ft.top, fun i f hi => ?_⟩⟩
  cases i with
  | zero =>
    simp [vD, Val.d] at hi
    subst hi
    exact ⟨h.cell 0, by show 1 ≤ reach; decide, cIk n, ⟨h.cell 1, h.cell 2, h.cell 3, h.cell 4, h.cell 5⟩, rw_i n w⟩
  | succ i => simp [vD, Val.d] at hi

theorem same_ka : sameP [ka] [ka] = true := by kernel_rfl
end Go.Proofs.YtfkapannahcjiaaGreatDoor



/- The key of the first checks. -/
namespace Go.Proofs.YtfkapannahcjiaaGreatDoor
open Go.RowKit

theorem results_key {fn : Func} {p : Tmp} (h : fn.results = #[.cell p 24]) (tmps : Array Value) (g1 off : Nat) (h1 : tmps[p]?.getD undef = .pointer (some ⟨g1, off, none⟩))
    (W : World) (a b : Value) (q0 : W.cell? ⟨g1, off, none⟩ = some a) (q1 : W.cell? ⟨g1, off + 1, none⟩ = some b) :
    (results fn tmps).run Tryz.prog W = .ok (.agg #[a, b]) W := by
  simp [results, h, h1, asAddr, go_sem, q0, q1]
/-- the key a: one order with the path a, in new memory -/
def KeyOk (w : World) (e : Ending) (w' : World) : Prop :=
  ∃ g1 g2 : Nat, e = .returned (.agg #[.slice (some ⟨g2, 0, none⟩) 1 1, .bool false]) ∧ Blk w' g1 9 #[.string ka] ∧ Blk w' g2 54 #[.slice (some ⟨g1, 0, none⟩) 1 1, .bool false] ∧ Below w.heap.size w w'
set_option maxRecDepth 100000 in
set_option maxHeartbeats 1000000 in
theorem key_any (w : World) : Calls Tryz.prog 18 #[] w (KeyOk w) := by
  go_enter Tryz.func18, Tryz.ntmps18
  go_wp2_with fail
  exact bodyPost_ret (results_key rfl _ _ _ rfl _ (.slice (some ⟨w.heap.size + 1 + 1, 0, none⟩) 1 1) (.bool false) ((((Blk.new_at rfl).alloc _).alloc _).cell 0) ((((Blk.new_at rfl).alloc _).alloc _).cell 1)) rfl
    ⟨w.heap.size + 1, w.heap.size + 1 + 1, rfl, (Blk.new_at (by simp)).alloc _, Blk.new_at (by simp), (((Below.refl _ _).alloc (Nat.le_refl _) _).alloc (by simp) _).alloc (by simp; omega) _⟩
abbrev k5 : ByteArray := ⟨#[3, 128, 0, 0, 0, 0, 0, 0, 5]⟩
theorem keyR_5 : keyR [vIk 5] = (k5, 0) := by rw [keyR_i, key5_eq]
theorem after_5 (w : World) : Calls Tryz.prog 67 #[.string k5] w fun e w' => e = .returned (.tuple #[.string (k5.extract 0 8 ++ strOfNums [((5 + 1 : Nat) : Int)]), .bool true]) ∧ Below w.heap.size w w' :=
  after9_any k5 5 w rfl rfl (by omega)
set_option maxRecDepth 100000 in
set_option maxHeartbeats 4000000 in
theorem awake48_any (w : World) (hT : Tabs w) : Calls Tryz.prog 8 #[] w fun e w' => e = .returned (.bool true) ∧ Below w.heap.size w w' := by
  have HT := Lib.hid hT
  clear hT
  have Z := Lib.hid (Below.refl w.heap.size w)
  go_enter Tryz.func8, Tryz.ntmps8
  go_wp2_with fail
  refine (rint01_any 5 _).mono ?_
  rintro e w1 ⟨rfl, hb⟩
  have Z1 := Lib.hid (Z.out.step' hb)
  clear hb Z
  go_upto_region 2 with fail
  change Code.wp _ _ _ _ ((w1.alloc (Obj.cells #[.string ka, .int .i64 3, .int .i64 5, .string ByteArray.empty, .slice none 0 0, .slice none 0 0] 59)).alloc (Obj.cells (cD w1.heap.size).arr 29))
  have F0 : Hid (Blk ((w1.alloc (Obj.cells #[.string ka, .int .i64 3, .int .i64 5, .string ByteArray.empty, .slice none 0 0, .slice none 0 0] 59)).alloc (Obj.cells (cD w1.heap.size).arr 29)) w1.heap.size 59 #[.string ka, .int .i64 3, .int .i64 5, .string ByteArray.empty, .slice none 0 0, .slice none 0 0]) := (Blk.new_at rfl).alloc _
  have D0 : Hid (Blk ((w1.alloc (Obj.cells #[.string ka, .int .i64 3, .int .i64 5, .string ByteArray.empty, .slice none 0 0, .slice none 0 0] 59)).alloc (Obj.cells (cD w1.heap.size).arr 29)) (w1.heap.size + 1) 29 (cD w1.heap.size).arr) := Blk.new_at (by simp)
  have Z2 : Hid (Below w.heap.size w ((w1.alloc (Obj.cells #[.string ka, .int .i64 3, .int .i64 5, .string ByteArray.empty, .slice none 0 0, .slice none 0 0] 59)).alloc (Obj.cells (cD w1.heap.size).arr 29))) := (Z1.out.alloc Z1.out.size _).alloc (by have := Z1.out.size; simp; omega) _
  generalize ((w1.alloc (Obj.cells #[.string ka, .int .i64 3, .int .i64 5, .string ByteArray.empty, .slice none 0 0, .slice none 0 0] 59)).alloc (Obj.cells (cD w1.heap.size).arr 29)) = wa at *
  generalize w1.heap.size = gf at *
  obtain ⟨a0, a1, a2, a3, a4⟩ := VAt.of_blk D0.out
  simp only [Nat.zero_add] at a0 a1 a2 a3 a4
  have B := Lib.hid ((Below.refl wa.heap.size wa).drewN 1)
  have KSS : Hid (∀ w', Below wa.heap.size wa w' → w'.cell? ⟨gf + 1, 0, none⟩ = some (.int .i64 5) ∧ w'.cell? ⟨gf + 1, 1, none⟩ = some (.int .i64 0) ∧ w'.cell? ⟨gf + 1, 2, none⟩ = some (.string ByteArray.empty) ∧ w'.cell? ⟨gf + 1, 3, none⟩ = some (.slice none 0 0) ∧ w'.cell? ⟨gf + 1, 4, none⟩ = some (.slice (some ⟨gf, 0, none⟩) 1 1)) := Lib.hid fun w' hb =>
    ⟨(hb.cell (p := ⟨gf + 1, 0, none⟩) D0.out.lt).trans a0, (hb.cell (p := ⟨gf + 1, 1, none⟩) D0.out.lt).trans a1, (hb.cell (p := ⟨gf + 1, 2, none⟩) D0.out.lt).trans a2, (hb.cell (p := ⟨gf + 1, 3, none⟩) D0.out.lt).trans a3, (hb.cell (p := ⟨gf + 1, 4, none⟩) D0.out.lt).trans a4⟩
  have RD := Lib.hid (rw_d F0.out)
  have HENC : Hid (∀ (g2 : Nat) (wq : World), Tabs wq → KS wq (some ⟨g2, 0, none⟩) 1 1 ks1 → RW wq (cD gf) (vD 5) → Calls Tryz.prog 12 #[.agg #[.slice (some ⟨g2, 0, none⟩) 1 1, .bool false], (cD gf).val] wq fun e w' => e = .returned (.tuple #[.string k5, .int .i64 0]) ∧ Below wq.heap.size wq w') := Lib.hid fun g2 wq ht hk hr => by
    have := senc_any ks1 false (some ⟨g2, 0, none⟩) 1 1 (vD 5) (cD gf) wq ht hk hr (by decide)
    rw [enc_d, key5_eq] at this
    exact this
  clear a0 a1 a2 a3 a4
  go_cut [2, 3] (fun v2 v3 wx => v2 = .string k5 ∧ v3 = .int .i64 0 ∧ Below wa.heap.size wa wx)
  case first =>
    go_region_held3 (fun w' => w'.cell? ⟨gf + 1, 0, none⟩ = some (.int .i64 5) ∧ w'.cell? ⟨gf + 1, 1, none⟩ = some (.int .i64 0) ∧ w'.cell? ⟨gf + 1, 2, none⟩ = some (.string ByteArray.empty) ∧ w'.cell? ⟨gf + 1, 3, none⟩ = some (.slice none 0 0) ∧ w'.cell? ⟨gf + 1, 4, none⟩ = some (.slice (some ⟨gf, 0, none⟩) 1 1))
      (first | exact KSS.out _ B.out | ((try dsimp only); assumption) | go_keep)
      (first
        | (go_at_call 18; refine (key_any _).mono ?_; rintro e3 w3 ⟨g1, g2, rfl, hk1, hk2, hb⟩; replace B := Lib.hid (B.out.step' hb); have K1 := Lib.hid hk1; have K2 := Lib.hid hk2; clear hb hk1 hk2)
        | (go_at_call 12; refine (HENC.out g2 _ (HT.out.step (Z2.out.step' B.out)) (ks_ka K1.out K2.out) (RD.out.step B.out)).mono ?_; rintro e4 w4 ⟨rfl, hb⟩; replace B := Lib.hid (B.out.step' hb); clear hb))
    all_goals
      go_wp2_with fail
      go_meet
      exact ⟨rfl, rfl, B.out⟩
  case rest =>
    obtain ⟨rfl, rfl, hb9⟩ := hcut
    have Z3 := Lib.hid (Z2.out.step' hb9)
    clear hb9 KSS B HENC RD F0 D0 Z2 Z1
    generalize wc = w5 at *
    go_wp2_with fail
    refine (key_any _).mono ?_
    rintro e w6 ⟨g1, g2, rfl, hk1, hk2, hb⟩
    have K1 := Lib.hid hk1
    have K2 := Lib.hid hk2
    have Z4 := Lib.hid (Z3.out.step' hb)
    clear hb hk1 hk2 Z3
    go_wp2_with fail
    refine (rint01_any 5 _).mono ?_
    rintro e w7 ⟨rfl, hb⟩
    have P0 : Hid (Blk w7 w6.heap.size 9 #[.string ka]) := (Blk.new_at rfl : Blk (w6.alloc (Obj.cells #[.string ka] 9)) w6.heap.size 9 #[.string ka]).step hb
    have Z5 := Lib.hid ((Z4.out.alloc Z4.out.size (Obj.cells #[.string ka] 9)).step' hb)
    have K3 := Lib.hid ((K1.out.alloc (Obj.cells #[.string ka] 9)).step hb)
    have K4 := Lib.hid ((K2.out.alloc (Obj.cells #[.string ka] 9)).step hb)
    clear hb K1 K2 Z4
    generalize w6.heap.size = gp at *
    have HRG := Lib.hid (ranges1_any (ptIv (vIk 5)) true k5 k5 (k5.extract 0 8 ++ strOfNums [((5 + 1 : Nat) : Int)]) k5 (k5.extract 0 8 ++ strOfNums [((5 + 1 : Nat) : Int)]) (predA 2 (some ⟨gp, 0, none⟩) 1 1 (cIk 5)) rfl ⟨some ⟨g1, 0, none⟩, 1, 1, false⟩ g2 0 1 1 w7 (HT.out.step Z5.out) (by omega) (K4.out.cell 0) ⟨rfl, rfl⟩ keyR_5 keyR_5 (.inl ⟨by show (3 : Int) ≠ 1; decide, by show (3 : Int) ≠ 11; decide, rfl, rfl⟩) after_5
      (fun wr hb => of_eq (vIk 5) (cIk 5) (some ⟨gp, 0, none⟩) (some ⟨g1, 0, none⟩) 1 1 1 1 [ka] wr (HT.out.step (Z5.out.step' hb)) (rw_i 5 wr) (valid_i 5) (by show (3 : Int) ≠ 6; decide) (by show (3 : Int) ≠ 2; decide) (st_ka (P0.out.step hb)) (st_ka (K3.out.step hb)) same_ka))
    go_wp2_with fail
    refine HRG.out.mono ?_
    rintro e w8 ⟨A8, c8, rfl, hsr, hb⟩
    have Z6 := Lib.hid (Z5.out.step' hb)
    have HSR := Lib.hid hsr
    clear hb hsr HRG Z5 K3 K4 P0
    obtain ⟨b, off, x, hA8, hbw, hx, e0, e1⟩ := HSR.out.at22 (i := 0) (by omega)
    obtain rfl : x = (k5, k5.extract 0 8 ++ strOfNums [((5 + 1 : Nat) : Int)]) := by simpa using hx.symm
    subst hA8
    rw [Nat.zero_mul, Nat.add_zero] at e0
    have E0 := Lib.hid e0
    clear hx e0 e1
    go_wp2_with fail
    refine (key_any _).mono ?_
    rintro e w9 ⟨g3, g4, rfl, hk1, hk2, hb⟩
    have E1 := Lib.hid ((hb.cell (p := ⟨b, off, none⟩) hbw).trans E0.out)
    have hbw9 : b < w9.heap.size := Nat.lt_of_lt_of_le hbw hb.size
    have HKK := Lib.hid (ks_ka hk1 hk2)
    have Z7 := Lib.hid (Z6.out.step' hb)
    clear hb hk1 hk2 Z6 E0 hbw HSR
    have HSV := Lib.hid (shardkey_any ks1 false (some ⟨g4, 0, none⟩) 1 1 w9 HKK.out)
    rw [keyE_ks1] at HSV
    go_wp2_with fail
    refine HSV.out.mono ?_
    rintro e wA ⟨rfl, hb⟩
    have E2 := Lib.hid ((hb.cell (p := ⟨b, off, none⟩) hbw9).trans E1.out)
    have hbwA : b < wA.heap.size := Nat.lt_of_lt_of_le hbw9 hb.size
    have Z8 := Lib.hid (Z7.out.step' hb)
    clear hb HSV HKK Z7 E1 hbw9
    have HSW := Lib.hid (shardkey_any [] false none 0 0 wA KS.nil)
    rw [keyE_nil] at HSW
    go_wp2_with fail
    refine HSW.out.mono ?_
    rintro e wB ⟨rfl, hb⟩
    have E3 := (hb.cell (p := ⟨b, off, none⟩) hbwA).trans E2.out
    have Z9 := Lib.hid (Z8.out.step' hb)
    clear hb HSW Z8 E2 hbwA
    go_wp2_with fail
    refine (rnull_any _).mono ?_
    rintro e wC ⟨rfl, hb⟩
    have ZA := Lib.hid (Z9.out.step' hb)
    clear hb Z9 E3
    go_wp2_with fail
    obtain ⟨h1, hh1⟩ : ∃ h, h = hashV nullV := ⟨_, rfl⟩
    obtain ⟨h2, hh2⟩ : ∃ h, h = hashV (vIk 5) := ⟨_, rfl⟩
    have hne : (h1 != h2) = true := by rw [hh1, hh2]; simpa using hash_diff
    have HH1 := Lib.hid (hash_any nullV nullC wC (HT.out.step ZA.out) rv_null)
    rw [← hh1] at HH1
    have HH2 := Lib.hid hh2
    clear hh1 hh2
    refine HH1.out.mono ?_
    rintro e wD ⟨rfl, hb⟩
    have ZB := Lib.hid (ZA.out.step' hb)
    clear hb ZA
    go_wp2_with fail
    refine (rint01_any 5 _).mono ?_
    rintro e wE ⟨rfl, hb⟩
    have ZC := Lib.hid (ZB.out.step' hb)
    clear hb ZB
    have HH := Lib.hid (hash_any (vIk 5) (cIk 5) wE (HT.out.step ZC.out) (rw_i 5 wE))
    rw [← HH2.out] at HH
    go_wp2_with fail
    refine HH.out.mono ?_
    rintro e wF ⟨rfl, hb⟩
    have ZD := Lib.hid (ZC.out.step' hb)
    clear hb ZC HH HH1
    go_wp2_with fail
    go_ret
    exact ⟨rfl, ZD.out⟩

end Go.Proofs.YtfkapannahcjiaaGreatDoor



/- The walk of ShardkeyEncodes. -/
namespace Go.Proofs.YtfkapannahcjiaaGreatDoor
open Go.RowKit

theorem keyE_parts {ks : List Od} {ha : Bool} (h : keyE ks ha = 0) : ks.length ≤ 8 ∧ 1 ≤ ks.length ∧ (ha = true → ks.length = 1) := by
  unfold keyE at h
  split at h
  · rename_i h1; exact absurd h h1
  · rename_i h1
    split at h
    · cases h
    · rename_i h2
      have h3 : ordE ks = 0 := by simpa using h1
      unfold ordE at h3
      split at h3
      · cases h3
      · rename_i h4
        have h5 : ¬ ks.length = 0 := fun e => h2 (.inl e)
        exact ⟨by omega, by omega, fun hh => by
          have : ¬ 1 < ks.length := fun e => h2 (.inr ⟨hh, e⟩)
          omega⟩

end Go.Proofs.YtfkapannahcjiaaGreatDoor



/- The walk of ShardkeyApart. -/
namespace Go.Proofs.YtfkapannahcjiaaGreatDoor
open Go.RowKit
set_option linter.unusedSimpArgs false

/-- the arguments in their variables -/
structure KpB (w : World) (k : Array Value) (P : Array Value) (wr : World) : Prop where
  b0 : Blk wr w.heap.size 24 k
  b1 : Blk wr (w.heap.size + 1) 38 P
  bel : Below w.heap.size w wr
theorem KpB.step {w wr w' : World} {k P : Array Value} (h : KpB w k P wr) (hb : Below wr.heap.size wr w') : KpB w k P w' := ⟨h.b0.step hb, h.b1.step hb, h.bel.step' hb⟩
theorem KpB.start {w : World} {k P : Array Value} : KpB w k P ((w.alloc (Obj.cells k 24)).alloc (Obj.cells P 38)) :=
  ⟨(Blk.new_at rfl).alloc _, Blk.new_at (by simp), ((Below.refl _ _).alloc (Nat.le_refl _) _).alloc (by simp) _⟩
theorem KS.first {w : World} {A : Option Addr} {n c : Nat} {ks : List Od} (h : KS w A n c ks) (hn : 0 < n) : ∃ (b off : Nat) (o : OC) (q : Od), A = some ⟨b, off, none⟩ ∧ w.cell? ⟨b, off, none⟩ = some (.slice o.A o.n o.c) ∧ ST w o.A o.n o.c q.p ∧ ks[0]? = some q := by
  obtain ⟨os, h⟩ := h
  obtain ⟨b, off, e, _, hc⟩ := h.sr.el hn
  obtain ⟨o, ho⟩ : ∃ o, os[0]? = some o := ⟨_, List.getElem?_eq_getElem (by have := h.sr.ln; omega)⟩
  obtain ⟨q, hq⟩ : ∃ q, ks[0]? = some q := ⟨_, List.getElem?_eq_getElem (by have := h.sr.ln; have := h.ln; omega)⟩
  exact ⟨b, off, o, q, e, hc 0 o ho 0 _ rfl, (h.el 0 o q ho hq).st, hq⟩
theorem bl_less {a b : ByteArray} (h : ltB a b) : Op.bytesLess a.toList b.toList = true := by
  rw [bl_cmpB]
  exact decide_eq_true h

set_option maxRecDepth 100000 in
set_option maxHeartbeats 8000000 in
theorem shardkeyApart_walk (ks : List Od) (ha : Bool) (A : Option Addr) (n cc : Nat) (p : PrT) (w : World) (hT : Tabs w) (hk : KS w A n cc ks) (hp : WP w p) (hn : NumsP p) :
    Calls Tryz.prog 5 #[.agg #[.slice A n cc, .bool ha], aggPr p] w fun e w' => e = .returned (.bool true) ∧ Below w.heap.size w w' := by
  have HT := Lib.hid hT
  have HN := Lib.hid hk.ln
  have HK := Lib.hid hk
  have HP := Lib.hid hp
  have NP := Lib.hid hn
  have hnz : (n : Int) ≤ 8796093022208 := by obtain ⟨os, h⟩ := hk; have := h.sz; unfold reach at this; omega
  have I0 : Hid (KpB w #[.slice A n cc, .bool ha] (arrPr p) ((w.alloc (Obj.cells #[.slice A n cc, .bool ha] 24)).alloc (Obj.cells (arrPr p) 38))) := KpB.start
  clear hk hp hT hn
  go_enter Tryz.func5, Tryz.ntmps5
  go_upto_region 1 with fail
  change Code.wp _ _ _ _ ((w.alloc (Obj.cells #[.slice A n cc, .bool ha] 24)).alloc (Obj.cells (arrPr p) 38))
  generalize ((w.alloc (Obj.cells #[.slice A n cc, .bool ha] 24)).alloc (Obj.cells (arrPr p) 38)) = wa at *
  have k0 := I0.out.b0.cell 0
  have k1 := I0.out.b0.cell 1
  simp at k0 k1
  by_cases h20 : 20 < n
  · have h20' : (20 : Int) < (n : Int) := by omega
    go_wp2_with fail
    refine (awake48_any wa (HT.out.step I0.out.bel)).mono ?_
    rintro e w1 ⟨rfl, hb⟩
    have CE := Lib.hid (I0.out.bel.step' hb)
    clear hb I0
    go_wp2_with fail
    go_ret
    exact ⟨rfl, CE.out⟩
  have h20' : ¬ ((20 : Int) < (n : Int)) := by omega
  have HV := Lib.hid (rshardkey_any ks ha A n cc wa (HK.out.step I0.out.bel))
  by_cases hE : keyE ks ha = 0
  rotate_left
  · have hEb : (keyE ks ha != 0) = true := by simpa using hE
    obtain ⟨E, hEE⟩ : ∃ E, keyE ks ha = E := ⟨_, rfl⟩
    rw [hEE] at HV hEb
    clear hE hEE
    go_wp2_with fail
    refine HV.out.mono ?_
    rintro e w1 ⟨rfl, hb⟩
    have CE := Lib.hid (I0.out.bel.step' hb)
    clear hb I0 HV k0 k1
    go_wp2_with fail
    refine (awake48_any w1 (HT.out.step CE.out)).mono ?_
    rintro e w2 ⟨rfl, hb⟩
    have DE := Lib.hid (CE.out.step' hb)
    clear hb CE
    go_wp2_with fail
    go_ret
    exact ⟨rfl, DE.out⟩
  rw [hE] at HV
  have HKP := Lib.hid (keyE_parts hE)
  clear hE
  go_wp2_with fail
  refine HV.out.mono ?_
  rintro e w1 ⟨rfl, hb⟩
  have I1 := Lib.hid (I0.out.step hb)
  clear hb HV I0 k0 k1
  have RF := Lib.hid (pr_full I1.out.b1)
  go_wp2_with ((with_reducible show wpList _ _ _ (⟨_, .load 38 _, _, _, _, _⟩ :: _) _ _); refine wpList_mid_w rfl 38 _ rfl (w.heap.size + 1) 0 rfl _ _ RF.out Tryz.underlying38 rfl (by kernel_rfl) ?_)
  refine (rpred_any p w1 (HP.out.step I1.out.bel) (HT.out.step I1.out.bel)).mono ?_
  rintro e w2 ⟨er, rfl, hv, hb⟩
  have I2 := Lib.hid (I1.out.step hb)
  have HV := Lib.hid hv
  clear hb hv I1 RF
  by_cases he : er = 0
  rotate_left
  · have heb : (er != 0) = true := by simpa using he
    clear he HV
    go_wp2_with fail
    refine (awake48_any w2 (HT.out.step I2.out.bel)).mono ?_
    rintro e w3 ⟨rfl, hb⟩
    have DE := Lib.hid (I2.out.bel.step' hb)
    clear hb I2
    go_wp2_with fail
    go_ret
    exact ⟨rfl, DE.out⟩
  subst he
  have VP := Lib.hid (HV.out rfl)
  clear HV
  have hn0 : 0 < n := by have := HKP.out.2.1; have := HN.out; omega
  obtain ⟨kb, ko, o, q, rfl, hko, hst, hq⟩ := HK.out.first hn0
  have HG := Lib.hid (ofS_good q.p NP.out)
  have HR : Hid (∀ wr, Below w.heap.size w wr → Calls Tryz.prog 9 #[.agg #[.slice (some ⟨kb, ko, none⟩) n cc, .bool ha], aggPr p] wr (RangesOk ha (ofS q.p p).1 wr)) := Lib.hid fun wr hb =>
    ranges_any p ha q.p o kb ko n cc wr (HT.out.step hb) hn0 ((hb.cell (p := ⟨kb, ko, none⟩) (World.block_lt_of_cell? w _ hko)).trans hko) (hst.step hb) (HP.out.step hb) VP.out.1 (Nat.le_trans (sz_le HP.out) (by have := VP.out.2; omega)) HG.out
  clear hko hst hq
  have k0 := I2.out.b0.cell 0
  have k1 := I2.out.b0.cell 1
  simp at k0 k1
  have RF := Lib.hid (pr_full I2.out.b1)
  go_wp2_with ((with_reducible show wpList _ _ _ (⟨_, .load 38 _, _, _, _, _⟩ :: _) _ _); refine wpList_mid_w rfl 38 _ rfl (w.heap.size + 1) 0 rfl _ _ RF.out Tryz.underlying38 rfl (by kernel_rfl) ?_)
  refine (HR.out _ I2.out.bel).mono ?_
  rintro e w3 ⟨A3, m3, c3, nf, L, rfl, hnf, hran, hsr, hm3', hb⟩
  have I3 := Lib.hid (I2.out.bel.step' hb)
  have HA := Lib.hid (ran_apt HG.out hnf hran)
  have HS := Lib.hid hsr
  have HLN := Lib.hid hsr.ln
  have hm3 : m3 ≤ 140737488355328 := by omega
  clear hb hnf hran hsr I2 RF k0 k1 HR
  go_upto_region 5 with fail
  go_loopw [6] (fun v wr => ∃ i : Nat, i ≤ m3 ∧ v = .int .i64 i ∧ Below w3.heap.size w3 wr) (fun v _ => m3 - (intOf v).toNat)
  case atStart => exact ⟨0, Nat.zero_le _, rfl, Below.refl _ _⟩
  case round =>
    obtain ⟨i, hi, rfl, hbel⟩ := hrel
    have HB := Lib.hid hbel
    clear hbel
    by_cases hlt : i < m3
    · obtain ⟨b, off, r, rfl, hb, hr, hm, hrg⟩ := HS.out.row hlt
      have hne := HA.out.ne r hm
      have e0 := (HB.out.cell (p := ⟨b, off + i * 2, none⟩) hb).trans (hrg 0 _ rfl)
      have e1 := (HB.out.cell (p := ⟨b, off + i * 2 + 1, none⟩) hb).trans (hrg 1 _ rfl)
      have i0 : (0 : Int) ≤ (i : Int) := by omega
      have i1 : (i : Int) < (m3 : Int) := by omega
      have X0 : ∀ kk : BW wr, kk.val.cell? ⟨b, off + i * 2, none⟩ = some (.string r.1) := fun kk => kk.cell e0
      have X1 : ∀ kk : BW wr, kk.val.cell? ⟨b, off + i * 2 + 1, none⟩ = some (.string r.2) := fun kk => kk.cell e1
      clear e0 e1
      have hcl : r.2.toList.isEmpty = true ∨ (r.2.toList.isEmpty = false ∧ Op.bytesLess r.1.toList r.2.toList = true) := by
        rcases hne with h | h
        · exact .inl (List.isEmpty_iff.2 ((empty_list _).2 h))
        · cases he : r.2.toList.isEmpty
          · exact .inr ⟨rfl, bl_less h⟩
          · exact .inl rfl
      rcases Nat.eq_zero_or_pos i with hi0 | hi0
      · have hp0 : decide ((0 : Int) < (i : Int)) = false := decide_eq_false (by omega)
        have hp1 : decide (0 < i) = false := decide_eq_false (by omega)
        have hp2 : ¬ (0 < i) := by omega
        clear hi0 hrg hne hm hr hb
        go_upto_region 7 with fail
        rcases hcl with c1 | ⟨c1, c2⟩
        all_goals
          refine wp_region_bw (by kernel_rfl) (by kernel_rfl) ?_
          repeat (go_big_quiet_step (fail))
          refine wpQuiet_nil ?_
          rintro _ ⟨kw, rfl⟩
          replace HB := Lib.hid (HB.out.step' kw.below)
          clear X0 X1
          generalize kw.val = w5 at *
          go_wp2_with fail
          go_roundw
          case rel => exact ⟨i + 1, by omega, by go_num, HB.out⟩
          case measure => simp [intOf]; omega
      · obtain ⟨j, rfl⟩ : ∃ j, i = j + 1 := ⟨i - 1, by omega⟩
        obtain ⟨b', off', r', hA', hb', hr', hm', hrg'⟩ := HS.out.row (i := j) (by omega)
        injection hA' with hA'
        injection hA' with hA1 hA2
        subst hA1 hA2
        obtain ⟨hx1, hx2⟩ := HA.out.ap j r' r hr' hr
        have x1 : r'.2.toList.isEmpty = false := by
          cases he : r'.2.toList.isEmpty
          · rfl
          · exact absurd ((empty_list _).1 (List.isEmpty_iff.1 he)) hx1
        have x2 : Op.bytesLess r'.2.toList r.1.toList = true := bl_less hx2
        have g1 := (HB.out.cell (p := ⟨b, off + j * 2 + 1, none⟩) hb).trans (hrg' 1 _ rfl)
        have Y1 : ∀ kk : BW wr, kk.val.cell? ⟨b, off + j * 2 + 1, none⟩ = some (.string r'.2) := fun kk => kk.cell g1
        have j0 : (0 : Int) ≤ (j : Int) := by omega
        have j1 : (j : Int) < (m3 : Int) := by omega
        have j2 : (0 : Int) < (j : Int) + 1 := by omega
        clear hi0 hrg hne hm hr hb hx1 hx2 hrg' hm' hr' hb' g1
        go_upto_region 7 with fail
        rcases hcl with c1 | ⟨c1, c2⟩
        all_goals
          refine wp_region_bw (by kernel_rfl) (by kernel_rfl) ?_
          repeat (go_big_quiet_step (fail))
          refine wpQuiet_nil ?_
          rintro _ ⟨kw, rfl⟩
          replace HB := Lib.hid (HB.out.step' kw.below)
          clear X0 X1 Y1
          generalize kw.val = w5 at *
          go_wp2_with fail
          go_roundw
          case rel => exact ⟨j + 1 + 1, by omega, by go_num, HB.out⟩
          case measure => simp [intOf]; omega
    · obtain rfl : i = m3 := by omega
      go_wp2_with fail
      refine (awake48_any wr (HT.out.step (I3.out.step' HB.out))).mono ?_
      rintro e w4 ⟨rfl, hb⟩
      have DE := Lib.hid ((I3.out.step' HB.out).step' hb)
      clear hb
      go_wp2_with fail
      go_ret
      exact ⟨rfl, DE.out⟩
end Go.Proofs.YtfkapannahcjiaaGreatDoor



/- A list of texts that came in, opened. · A list of orders that came in, opened; what New is called with. · Routes that came in, opened. · A change that came in, opened. -/
namespace Go.Proofs.YtfkapannahcjiaaGreatDoor
set_option maxRecDepth 100000
open Go.ChangeShapes Go.WideShapes Go.ChangeAt Go.RowKit Go.Joins Go.Deep

theorem bytes_string : Tryz.prog.bytesOf 9 = 16 := by kernel_rfl
section
variable {H : Type} {enc : TypeId × Value → H} {W : World} {base : Nat} {spare : Nat → Bool} {held : Bool}
theorem read_texts (n : Nat) {v : Value} {y : DataW H × List MemPlace} (h : DataW.trod enc Tryz.prog W base spare held n 25 [v] = some y) (hw : Light 25 y.1) :
    ∃ (A : Option Addr) (n c : Nat) (xs : List ByteArray), v = .slice A n c ∧ ST W A n c xs := by
  rcases DataW.trod_slice Tryz.underlying25 h with ⟨hcs, _⟩ | ⟨a, len, cap, elems, rest, n', rfl, hcs, rfl, _, hlc, hcm, hel, hat, _, _⟩
  · simp at hcs
    exact ⟨none, 0, 0, [], hcs, ⟨SR.nil, by show 0 * 16 ≤ reach; decide, fun s hs => by simp at hs⟩⟩
  · simp at hcs
    subst hcs
    simp only [Light, DataW.weights, Tryz.underlying25, List.mem_cons, List.mem_append, bytes_string] at hw
    have hsz : len * 16 ≤ reach := by
      have := hw _ (.inl rfl)
      simp only [List.length_map, hel] at this
      have h2 : len * 16 ≤ (len + rest.length) * 16 := Nat.mul_le_mul_right _ (by omega)
      have := le_reach
      omega
    have wl := light_all (l := elems.map (·.1)) (fun z hz => hw z (.inr (.inl hz)))
    rcases Nat.eq_zero_or_pos len with h0 | hp
    · subst h0
      exact ⟨some a, 0, cap, [], rfl, ⟨SR.nil, by show 0 * 16 ≤ reach; decide, fun s hs => by simp at hs⟩⟩
    have step : ∀ i, i < len → ∃ s : ByteArray, W.cells? base (a.add (i * 1)) 1 = some [.string s] ∧ s.size ≤ reach := by
      intro i hi
      have h1 := hat i hi
      rw [cells_string, List.getElem?_eq_getElem (by omega)] at h1
      obtain ⟨cs', hcs', ht'⟩ := Option.bind_eq_some_iff.1 h1
      have hwi := wl _ (List.mem_map_of_mem (List.getElem_mem (l := elems) (n := i) (by omega)))
      generalize elems[i] = q at *
      obtain ⟨s, e0, rfl, _⟩ := DataW.trod_string Tryz.underlying9 ht'
      subst e0
      refine ⟨s, hcs', Nat.le_trans (hwi s.size ?_) le_reach⟩
      simp [DataW.weights]
    obtain ⟨s0, h0, _⟩ := step 0 hp
    obtain ⟨b, off, ha, _⟩ := cells_at h0 (by omega)
    have ha' : a = ⟨b, off, none⟩ := by simpa [Addr.add] using ha
    subst ha'
    obtain ⟨f, hf⟩ := choose_fn (p := fun i (s : ByteArray) => W.cell? ⟨b, off + i, none⟩ = some (.string s) ∧ s.size ≤ reach) ByteArray.empty len (fun i hi => by
      obtain ⟨s, hcs', hs⟩ := step i hi
      rw [addr_add] at hcs'
      obtain ⟨b', off', ha', hc⟩ := cells_at hcs' (by omega)
      injection ha' with e1 e2
      subst e1 e2
      have := hc 0 (by omega)
      rw [Nat.mul_one] at this
      exact ⟨s, this, hs⟩)
    refine ⟨_, len, cap, (List.range len).map f, rfl, ⟨⟨by simp, hlc, fun _ => ⟨b, off, rfl, World.block_lt_of_cell? W _ (hf 0 hp).1, fun i x hi j u hj => ?_⟩⟩, hsz, fun s hs => ?_⟩⟩
    · have hlt : i < len := by have := (List.getElem?_eq_some_iff.1 hi).1; simpa using this
      rw [List.getElem?_map, List.getElem?_range hlt] at hi
      simp only [Option.map_some, Option.some.injEq] at hi
      subst hi
      have hj0 : j = 0 := by have := (List.getElem?_eq_some_iff.1 hj).1; simpa [recT] using this
      subst hj0
      simp [recT] at hj
      subst hj
      rw [Nat.mul_one, Nat.add_zero]
      exact (hf i hlt).1
    · obtain ⟨i, hi, rfl⟩ := List.mem_map.1 hs
      exact (hf i (List.mem_range.1 hi)).2
end
end Go.Proofs.YtfkapannahcjiaaGreatDoor

namespace Go.Proofs.YtfkapannahcjiaaGreatDoor
set_option maxRecDepth 100000
open Go.ChangeShapes Go.WideShapes Go.ChangeAt Go.RowKit Go.Joins Go.Deep

theorem bytes_order : Tryz.prog.bytesOf 54 = 32 := by kernel_rfl
theorem cells_order : Tryz.prog.cellsOf 54 = 2 := by kernel_rfl
theorem cells_texts : Tryz.prog.cellsOf 25 = 1 := by kernel_rfl
theorem cells_bool : Tryz.prog.cellsOf 4 = 1 := by kernel_rfl
section
variable {H : Type} {enc : TypeId × Value → H} {W : World} {base : Nat} {spare : Nat → Bool} {held : Bool}
theorem read_orders (n : Nat) {v : Value} {y : DataW H × List MemPlace} (h : DataW.trod enc Tryz.prog W base spare held n 22 [v] = some y) (hw : Light 22 y.1) :
    ∃ (A : Option Addr) (n c : Nat) (ks : List Od), v = .slice A n c ∧ KS W A n c ks := by
  rcases DataW.trod_slice Tryz.underlying22 h with ⟨hcs, _⟩ | ⟨a, len, cap, elems, rest, n', rfl, hcs, rfl, _, hlc, hcm, hel, hat, _, _⟩
  · simp at hcs
    exact ⟨none, 0, 0, [], hcs, KS.nil⟩
  · simp at hcs
    subst hcs
    simp only [Light, DataW.weights, Tryz.underlying22, List.mem_cons, List.mem_append, bytes_order] at hw
    have hsz : len * 32 ≤ reach := by
      have := hw _ (.inl rfl)
      simp only [List.length_map, hel] at this
      have h2 : len * 32 ≤ (len + rest.length) * 32 := Nat.mul_le_mul_right _ (by omega)
      have := le_reach
      omega
    have wl := light_all (l := elems.map (·.1)) (fun z hz => hw z (.inr (.inl hz)))
    rcases Nat.eq_zero_or_pos len with h0 | hp
    · subst h0
      exact ⟨some a, 0, cap, [], rfl, KS.nil⟩
    have step : ∀ i, i < len → ∃ (o : OC) (q : Od), W.cells? base (a.add (i * 2)) 2 = some [.slice o.A o.n o.c, .bool o.d] ∧ OR W o q := by
      intro i hi
      have h1 := hat i hi
      rw [cells_order, List.getElem?_eq_getElem (by omega)] at h1
      obtain ⟨cs', hcs', ht'⟩ := Option.bind_eq_some_iff.1 h1
      have hwi := wl _ (List.mem_map_of_mem (List.getElem_mem (l := elems) (n := i) (by omega)))
      generalize elems[i] = q at *
      obtain ⟨ys, n'', rfl, rfl, hcl, hyl, hf⟩ := DataW.trod_struct Tryz.underlying54 ht'
      rw [cells_order] at hcl
      obtain ⟨v0, v1, rfl⟩ := two hcl
      obtain ⟨y0, y1, rfl⟩ := two hyl
      have f0 : DataW.trod enc Tryz.prog W base spare held n'' 25 [v0] = some y0 := by simpa [cells_texts] using hf 0 _ rfl
      have f1 : DataW.trod enc Tryz.prog W base spare held n'' 4 [v1] = some y1 := by simpa [cells_texts, cells_bool] using hf 1 _ rfl
      simp only [Light, DataW.weights, Tryz.underlying54, List.map, DataW.weightsEach, List.mem_append] at hwi
      obtain ⟨A, m, c, xs, rfl, hx⟩ := read_texts n'' f0 (fun z hz => hwi z (.inl hz))
      obtain ⟨d, e1, rfl⟩ := DataW.trod_bool Tryz.underlying4 f1
      simp only [List.cons.injEq, and_true] at e1
      subst e1
      exact ⟨⟨A, m, c, d⟩, ⟨xs, d⟩, hcs', rfl, hx⟩
    obtain ⟨o0, q0, h0, _⟩ := step 0 hp
    obtain ⟨b, off, ha, _⟩ := cells_at h0 (by omega)
    have ha' : a = ⟨b, off, none⟩ := by simpa [Addr.add] using ha
    subst ha'
    obtain ⟨f, hf⟩ := choose_fn (p := fun i (z : OC × Od) => W.cell? ⟨b, off + i * 2, none⟩ = some (.slice z.1.A z.1.n z.1.c) ∧ W.cell? ⟨b, off + i * 2 + 1, none⟩ = some (.bool z.1.d) ∧ OR W z.1 z.2) (o0, q0) len (fun i hi => by
      obtain ⟨o, q, hcs', ho⟩ := step i hi
      rw [addr_add] at hcs'
      obtain ⟨b', off', ha', hc⟩ := cells_at hcs' (by omega)
      injection ha' with e1 e2
      subst e1 e2
      exact ⟨(o, q), hc 0 (by omega), hc 1 (by omega), ho⟩)
    refine ⟨_, len, cap, (List.range len).map fun i => (f i).2, rfl, (List.range len).map (fun i => (f i).1), ⟨by simp, hlc, fun _ => ⟨b, off, rfl, World.block_lt_of_cell? W _ (hf 0 hp).1, fun i x hi j u hj => ?_⟩⟩, hsz, by simp, fun i o q hi hq => ?_⟩
    · have hlt : i < len := by have := (List.getElem?_eq_some_iff.1 hi).1; simpa using this
      rw [List.getElem?_map, List.getElem?_range hlt] at hi
      simp only [Option.map_some, Option.some.injEq] at hi
      subst hi
      have hj2 : j < 2 := by have := (List.getElem?_eq_some_iff.1 hj).1; simpa [recO] using this
      rcases (show j = 0 ∨ j = 1 by omega) with rfl | rfl
      · simp [recO] at hj
        subst hj
        rw [Nat.add_zero]
        exact (hf i hlt).1
      · simp [recO] at hj
        subst hj
        exact (hf i hlt).2.1
    · have hlt : i < len := by have := (List.getElem?_eq_some_iff.1 hi).1; simpa using this
      rw [List.getElem?_map, List.getElem?_range hlt] at hi hq
      simp only [Option.map_some, Option.some.injEq] at hi hq
      subst hi hq
      exact (hf i hlt).2.2
theorem cells_orders : Tryz.prog.cellsOf 22 = 1 := by kernel_rfl
end
end Go.Proofs.YtfkapannahcjiaaGreatDoor

namespace Go.Proofs.YtfkapannahcjiaaGreatDoor
set_option maxRecDepth 100000
open Go.ChangeShapes Go.WideShapes Go.ChangeAt Go.RowKit Go.Joins Go.Deep

section
variable {H : Type} {enc : TypeId × Value → H} {W : World} {base : Nat} {spare : Nat → Bool} {held : Bool}
end
end Go.Proofs.YtfkapannahcjiaaGreatDoor

namespace Go.Proofs.YtfkapannahcjiaaGreatDoor
set_option maxRecDepth 100000
open Go.ChangeShapes Go.WideShapes Go.ChangeAt Go.RowKit Go.Joins Go.Deep

section
variable {H : Type} {enc : TypeId × Value → H} {W : World} {base : Nat} {spare : Nat → Bool} {held : Bool}
end
end Go.Proofs.YtfkapannahcjiaaGreatDoor



/- A shard key that came in, opened. -/
namespace Go.Proofs.YtfkapannahcjiaaGreatDoor
set_option maxRecDepth 100000
open Go.ChangeShapes Go.WideShapes Go.ChangeAt Go.RowKit Go.Joins Go.Deep

section
variable {H : Type} {enc : TypeId × Value → H} {W : World} {base : Nat} {spare : Nat → Bool} {held : Bool}
theorem cells_key2 : Tryz.prog.cellsOf 24 = 2 := by kernel_rfl
theorem read_key (fuel : Nat) (cs : List Value) (y : DataW H × List MemPlace) (h : DataW.trod enc Tryz.prog W base spare held fuel 24 cs = some y) (hw : Light 24 y.1) :
    ∃ (A : Option Addr) (n c : Nat) (ha : Bool) (ks : List Od), cs = [.slice A n c, .bool ha] ∧ KS W A n c ks := by
  obtain ⟨ys, n2, rfl, rfl, hcl2, hyl2, hf2⟩ := DataW.trod_struct Tryz.underlying24 h
  rw [cells_key2] at hcl2
  obtain ⟨v1, v2, rfl⟩ := two hcl2
  obtain ⟨z0, z1, rfl⟩ := two hyl2
  have g0 : DataW.trod enc Tryz.prog W base spare held n2 22 [v1] = some z0 := by simpa [cells_orders] using hf2 0 _ rfl
  have g1 : DataW.trod enc Tryz.prog W base spare held n2 4 [v2] = some z1 := by simpa [cells_orders, cells_bool] using hf2 1 _ rfl
  simp only [Light, DataW.weights, Tryz.underlying24, List.map, DataW.weightsEach, List.mem_append] at hw
  obtain ⟨A, n, c, ks, rfl, hk⟩ := read_orders n2 g0 (fun z hz => hw z (.inl hz))
  obtain ⟨ha, e3, rfl⟩ := DataW.trod_bool Tryz.underlying4 g1
  simp only [List.cons.injEq, and_true] at e3
  subst e3
  exact ⟨A, n, c, ha, ks, rfl, hk⟩
theorem open_key {r : Reach} {b0 : Nat} {v : Value} {d : DataW H} {p : List MemPlace} (hv : Value.okWide Tryz.prog W r b0 24 v) (h : DataW.Trod enc Tryz.prog W base spare held 24 v d p) (hw : Light 24 d) :
    ∃ (A : Option Addr) (n c : Nat) (ha : Bool) (ks : List Od), v = .agg #[.slice A n c, .bool ha] ∧ KS W A n c ks := by
  obtain ⟨cs, rfl, hsz⟩ := okWide_struct Tryz.underlying24 hv
  obtain ⟨fuel, hf⟩ := h
  obtain ⟨A, n, c, ha, ks, hc, h1⟩ := read_key fuel _ _ hf hw
  refine ⟨A, n, c, ha, ks, ?_, h1⟩
  obtain ⟨l⟩ := cs
  simp only [Value.cells] at hc
  rw [show l = _ from hc]
end
end Go.Proofs.YtfkapannahcjiaaGreatDoor


