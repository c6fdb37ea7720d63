/- The walk of the law IntervalMeets. (Printed by gen_normal24.py.) · The law IntervalMeets returns true for every input, and each argument reads behind the call as it read before; the tables of unicode/utf8 that it reads are tied to the program's text. Conditions: none beyond the card. The frame is printed by gen_card.py. -/
import Derived.Test.YtdmabhbhlnpkgaaDoorIvRefMeet
import Derived.Test.YtdmabhbhlnpkgaaDoorValUtf8
import Derived.Test.YtdmabhbhlnpkgaaDoorCards
import Derived.Test.YtdmabhbhlnpkgaaDoorTie
import Derived.Lib.LaidIn
import Derived.Lib.LaidU8T
import Derived.PinnedBridge
import Derived.Deep.DeepHandedRow
import Derived.Deep.DeepWitnessRowRef
import Derived.ProofKit
import Derived.SizedLaws
import Derived.OpenShut
import Derived.ShutString
import Derived.ChangeOld
import Derived.Below
import Derived.SevenTiedAt
namespace Go.Proofs.YtdmabhbhlnpkgaaDoor
open Go.RowKit

set_option maxRecDepth 100000 in
set_option maxHeartbeats 4000000 in
theorem intervalMeets_walk (Aa : Option Addr) (ma ca : Nat) (ya : List PI) (Ab : Option Addr) (mb cb : Nat) (yb : List PI) (w : World) (hT : Tabs w) (ha : SI w Aa ma ca ya) (hb : SI w Ab mb cb yb) :
    Calls Tryd.prog 7 #[.slice Aa ma ca, .slice Ab mb cb] w fun e w' => e = .returned (.bool true) ∧ Below w.heap.size w w' := by
  have HT := Lib.hid hT
  have Sa := Lib.hid ha
  have Sb := Lib.hid hb
  have Z := Lib.hid (Below.refl w.heap.size w)
  clear hT ha hb
  go_enter Tryd.func7, Tryd.ntmps7
  go_wp2_with fail
  refine (few_any ya Aa ma ca _ Sa.out).mono ?_
  rintro e w1 ⟨r, rfl, h40, hb⟩
  replace HT := Lib.hid (HT.out.step hb)
  replace Sa := Lib.hid (Sa.out.step hb)
  replace Sb := Lib.hid (Sb.out.step hb)
  replace Z := Lib.hid (Z.out.step' hb)
  clear hb
  cases r
  · clear h40
    go_wp2_with fail
    refine (awake24_any _ HT.out).mono ?_
    rintro e w9 ⟨rfl, hb9⟩
    go_wp2_with fail
    go_ret
    exact ⟨rfl, Z.out.step' hb9⟩
  have h4a : ma ≤ 40 := h40 rfl
  clear h40
  go_wp2_with fail
  refine (few_any yb Ab mb cb _ Sb.out).mono ?_
  rintro e w2 ⟨r, rfl, h40, hb⟩
  replace HT := Lib.hid (HT.out.step hb)
  replace Sa := Lib.hid (Sa.out.step hb)
  replace Sb := Lib.hid (Sb.out.step hb)
  replace Z := Lib.hid (Z.out.step' hb)
  clear hb
  cases r
  · clear h40
    go_wp2_with fail
    refine (awake24_any _ HT.out).mono ?_
    rintro e w9 ⟨rfl, hb9⟩
    go_wp2_with fail
    go_ret
    exact ⟨rfl, Z.out.step' hb9⟩
  have h4b : mb ≤ 40 := h40 rfl
  clear h40
  go_wp2_with fail
  refine (meet_any ya yb Aa Ab ma ca mb cb _ HT.out Sa.out Sb.out (by omega) (by omega)).mono ?_
  rintro e w3 ⟨Ax, mx, cx, yx, qx, rfl, he, hn, hmx, hs, hb⟩
  have Nx : Hid (Nrm _ yx) := Lib.hid ⟨_, he, hn⟩
  have Sx := Lib.hid hs
  replace HT := Lib.hid (HT.out.step hb)
  replace Sa := Lib.hid (Sa.out.step hb)
  replace Sb := Lib.hid (Sb.out.step hb)
  replace Z := Lib.hid (Z.out.step' hb)
  clear he hn hs hb
  go_wp2_with fail
  refine (rmeet_any ya yb Aa Ab ma ca mb cb _ Sa.out Sb.out (by omega) (by omega)).mono ?_
  rintro e w4 ⟨Ay, my, cy, yy, qy, rfl, he, hn, hmy, hs, hb⟩
  have Ny : Hid (Nrm _ yy) := Lib.hid ⟨_, he, hn⟩
  have Sy := Lib.hid hs
  replace HT := Lib.hid (HT.out.step hb)
  replace Sa := Lib.hid (Sa.out.step hb)
  replace Sb := Lib.hid (Sb.out.step hb)
  replace Sx := Lib.hid (Sx.out.step hb)
  replace Z := Lib.hid (Z.out.step' hb)
  clear he hn hs hb
  have HE : Hid (yx.map ivP = yy.map ivP) := Lib.hid (Nx.out.same Ny.out fun _ _ => Iff.rfl)
  go_wp2_with fail
  refine (same24_eq yx yy Ax Ay mx my cx cy _ Sx.out Sy.out HE.out).mono ?_
  rintro e w5 ⟨rfl, hb⟩
  replace HT := Lib.hid (HT.out.step hb)
  replace Sa := Lib.hid (Sa.out.step hb)
  replace Sb := Lib.hid (Sb.out.step hb)
  replace Sx := Lib.hid (Sx.out.step hb)
  replace Sy := Lib.hid (Sy.out.step hb)
  replace Z := Lib.hid (Z.out.step' hb)
  clear hb HE
  go_wp2_with fail
  refine (union_any ya yb Aa Ab ma ca mb cb _ HT.out Sa.out Sb.out (by omega) (by omega)).mono ?_
  rintro e w6 ⟨Au, mu, cu, yu, qu, rfl, he, hn, hmu, hs, hb⟩
  have Nu : Hid (Nrm _ yu) := Lib.hid ⟨_, he, hn⟩
  have Su := Lib.hid hs
  replace HT := Lib.hid (HT.out.step hb)
  replace Sa := Lib.hid (Sa.out.step hb)
  replace Sb := Lib.hid (Sb.out.step hb)
  replace Sx := Lib.hid (Sx.out.step hb)
  replace Sy := Lib.hid (Sy.out.step hb)
  replace Z := Lib.hid (Z.out.step' hb)
  clear he hn hs hb
  go_wp2_with fail
  refine (runion_any ya yb Aa Ab ma ca mb cb _ Sa.out Sb.out (by omega) (by omega)).mono ?_
  rintro e w7 ⟨Av, mv, cv, yv, qv, rfl, he, hn, hmv, hs, hb⟩
  have Nv : Hid (Nrm _ yv) := Lib.hid ⟨_, he, hn⟩
  have Sv := Lib.hid hs
  replace HT := Lib.hid (HT.out.step hb)
  replace Sa := Lib.hid (Sa.out.step hb)
  replace Sb := Lib.hid (Sb.out.step hb)
  replace Sx := Lib.hid (Sx.out.step hb)
  replace Sy := Lib.hid (Sy.out.step hb)
  replace Su := Lib.hid (Su.out.step hb)
  replace Z := Lib.hid (Z.out.step' hb)
  clear he hn hs hb
  have HE : Hid (yu.map ivP = yv.map ivP) := Lib.hid (Nu.out.same Nv.out fun _ _ => Iff.rfl)
  go_wp2_with fail
  refine (same24_eq yu yv Au Av mu mv cu cv _ Su.out Sv.out HE.out).mono ?_
  rintro e w8 ⟨rfl, hb⟩
  replace HT := Lib.hid (HT.out.step hb)
  replace Sa := Lib.hid (Sa.out.step hb)
  replace Sb := Lib.hid (Sb.out.step hb)
  replace Sx := Lib.hid (Sx.out.step hb)
  replace Sy := Lib.hid (Sy.out.step hb)
  replace Su := Lib.hid (Su.out.step hb)
  replace Sv := Lib.hid (Sv.out.step hb)
  replace Z := Lib.hid (Z.out.step' hb)
  clear hb HE
  go_wp2_with fail
  refine (awake24_any _ HT.out).mono ?_
  rintro e w9 ⟨rfl, hb9⟩
  go_wp2_with fail
  go_ret
  exact ⟨rfl, Z.out.step' hb9⟩

end Go.Proofs.YtdmabhbhlnpkgaaDoor

namespace Go.Proofs.YtdmabhbhlnpkgaaDoor.intervalMeets
open Go Go.Shelf Go.ChangeShapes Go.WideShapes Go.ChangeAt Go.RowKit Go.Lib
set_option linter.unusedVariables false

theorem own : ownKnob Tryd.prog.godebug = none := by kernel_rfl
theorem laidOut : laidOutB Tryd.prog = true := by kernel_rfl
theorem accept_eq : Rows.laid_unicode_utf8_acceptRanges = Lib.acceptData := by kernel_rfl
theorem first_eq : Rows.laid_unicode_utf8_first = Lib.firstData := Go.Pinned.utf8First_eq
noncomputable def laidWorld (os : Os) : World :=
  let w0 := World.holding Tryd.prog os ⟨#[], #[], []⟩
  let put (h : Array Obj) (g : Nat) (cs : Array Value) : Array Obj := h.modify g fun
    | .cells _ t frozen => .cells cs t frozen
    | o => o
  let h1 := put w0.heap 0 (Lib.firstTab.map fun z => Value.int .u8 z).toArray
  let h2 := put h1 1 ((List.range 16).flatMap fun i => [Value.int .u8 (Lib.accLo i), Value.int .u8 (Lib.accHi i)]).toArray
  { w0 with heap := h2 }
theorem laid_met (os : Os) (args : Array Value) : laidMet Tryd.prog Rows.intervalMeetsRow.laid ((laidWorld os).forCall (fun _ _ => 0) ⟨#[], args, []⟩).memory :=
  (LaidIn.of_run (l := [("unicode/utf8.acceptRanges", Rows.laid_unicode_utf8_acceptRanges), ("unicode/utf8.first", Rows.laid_unicode_utf8_first)]) [1, 0] 8 (by kernel_rfl) (by kernel_rfl) (by kernel_rfl) (by kernel_rfl)).met

theorem witness_row (os : Os) {H : Type} (enc : TypeId × Value → H) :
    (OpenSpec.ofChange Rows.intervalMeetsSpec).preRow enc Tryd.prog Tryd.f7 Rows.intervalMeetsRow.domain false Rows.intervalMeetsRow.laid ((laidWorld os).forCall (fun _ _ => 0) ⟨#[], #[.slice none 0 0, .slice none 0 0], []⟩).memory #[.slice none 0 0, .slice none 0 0] := by
  have hw : (DataW.whole enc Tryd.prog ((laidWorld os).forCall (fun _ _ => 0) ⟨#[], #[.slice none 0 0, .slice none 0 0], []⟩).memory Tryd.f7.params.toList (OpenSpec.ofChange Rows.intervalMeetsSpec).vars false (#[.slice none 0 0, .slice none 0 0] : Array Value).toList 8).map (fun x => (x.1, x.2.1)) =
      some ([.nil, .nil], []) := by kernel_rfl
  obtain ⟨⟨x1, x2, x3⟩, hx, hx1⟩ := Option.map_eq_some_iff.1 hw
  simp only [Prod.mk.injEq] at hx1
  obtain ⟨rfl, rfl⟩ := hx1
  exact OpenSpec.preRow_of_cond 8 hx (by kernel_rfl) (fun k hk => by cases hk) (by kernel_rfl) (laid_met os _)

set_option maxRecDepth 100000 in
set_option maxHeartbeats 2000000 in
theorem lifted (os : Os) (started : os.Started) (H : Type) (enc : TypeId × Value → H) (F0 : Stop.Interp) :
    ReturnsInHanded {} Tryd.checked os 7 .any ((OpenSpec.ofChange Rows.intervalMeetsSpec).preRow enc Tryd.prog Tryd.f7 Rows.intervalMeetsRow.domain false Rows.intervalMeetsRow.laid) (((OpenSpec.ofChange Rows.intervalMeetsSpec).at F0).post enc Tryd.prog Tryd.f7 false true false false) := by
  refine returnsInHanded_of_row (C := Tryd.checked) (s := OpenSpec.ofChange Rows.intervalMeetsSpec) own started (by kernel_rfl) Tryd.func7
    (witness_row_atRef (enc := enc) (C := Tryd.checked) false (laidWorld os) #[.slice none 0 0, .slice none 0 0] rfl (by kernel_rfl) (by kernel_rfl) (by kernel_rfl) (witness_row os enc)) ?_
  intro W base args ds gs before hval0 hW hq1 hq2 hwt hL hq5 hq6
  have hval : ∀ (j : Nat) t v, Tryd.f7.params[j]? = some t → args[j]? = some v → Value.okWide Tryd.prog W .any base t v := hval0
  have hW' := hW
  obtain ⟨p, q, hA0, hV, rfl, hfz, hnd⟩ := hW
  have hA : DataW.TrodAll enc Tryd.prog W 0 (fun _ => true) true Tryd.f7.params.toList args.toList ds p := hA0
  rw [Tryd.params7] at hA hval hwt
  obtain ⟨v0, vs0, d0, ds0, p0, q0, hargs, rfl, rfl, h0, r0⟩ := trodAll_cons hA
  obtain ⟨v1, vs1, d1, ds1, p1, q1, rfl, rfl, rfl, h1, r1⟩ := trodAll_cons r0
  obtain ⟨rfl, rfl, rfl⟩ := trodAll_nil r1
  obtain rfl : args = #[v0, v1] := by cases args; simp_all
  obtain ⟨rfl, rfl⟩ := trodVars_none hV
  obtain ⟨hlt0, hwt0⟩ := light_each hwt
  obtain ⟨hlt1, hwt1⟩ := light_each hwt0
  have trd0 := h0
  have lt0 : ∀ x ∈ p0, x.block < W.heap.size := by obtain ⟨m, hm⟩ := trd0; exact DataW.trod_lt m _ _ _ hm
  obtain ⟨A0, n0, k0, ps0, rfl, o0⟩ := open_intervals (hval 0 22 v0 rfl rfl) h0 hlt0
  have trd1 := h1
  have lt1 : ∀ x ∈ p1, x.block < W.heap.size := by obtain ⟨m, hm⟩ := trd1; exact DataW.trod_lt m _ _ _ hm
  obtain ⟨A1, n1, k1, ps1, rfl, o1⟩ := open_intervals (hval 1 22 v1 rfl rfl) h1 hlt1
  clear hA0 hval0
  have htab : Tabs W := by
    have r1 := Lib.laidMet.reads hL (.tail _ (.head _))
    have r2 := Lib.laidMet.reads hL (.head _)
    rw [first_eq] at r1
    rw [accept_eq] at r2
    exact utf8Tabs_of_readsT (U8Types.of196 laysValid) ⟨by kernel_rfl, by kernel_rfl, by kernel_rfl, by kernel_rfl, by kernel_rfl, by kernel_rfl, by kernel_rfl⟩ r1 r2
  refine (intervalMeets_walk A0 n0 k0 ps0 A1 n1 k1 ps1 W htab o0 o1).mono fun e W' ⟨he, bel⟩ => ?_
  subst he
  exact ⟨_, rfl, _, _, _, [], _, [], hW', trodAll_mk1 (shut_bool Tryd.underlying4 _), (trodAll_cons_mk (Below.trod laidOut (by kernel_rfl) (of_decide_eq_true (by kernel_rfl)) trd0 bel lt0) (trodAll_cons_mk (Below.trod laidOut (by kernel_rfl) (of_decide_eq_true (by kernel_rfl)) trd1 bel lt1) trodAll_mk0)), rfl, bel.frame _, fun h => by cases h⟩

theorem over : Rows.IntervalMeetsSaid :=
  OpenClaim.holds_of_cond 7 Tryd.f7 rfl rfl rfl rfl rfl rfl rfl ⟨rfl, rfl, rfl, rfl, rfl⟩ rfl rfl rfl rfl rfl (by kernel_rfl) Tryd.func7 (by kernel_rfl)
    (of_decide_eq_true (by kernel_rfl)) (by unfold Func.isWrapper; first | (rw [if_pos (by decide +kernel)]; kernel_rfl) | (rw [if_neg (by decide +kernel)]; exact ⟨rfl, rfl⟩))
    (fun os started H enc _ F0 => by rw [OpenClaim.pre_eq_preRow]; exact lifted os started H enc F0)

theorem proved : Rows.IntervalMeetsCardSaid :=
  Claim7.holds_tied_plain_at .later [] [.data, .pinned] true (true, "87cb7ca0f2df7e342740e20986d752edf5c3e99baf4577ef5374746f9367e1e3") false
    over (fun _ h => by cases h) (by kernel_rfl) (fun _ h => by cases h) intervalMeets_row_tie rfl ⟨rfl, rfl⟩ (by kernel_rfl) rfl
    (fun f fn hf hfn => by
      obtain rfl : f = 7 := Option.some.inj ((show Tryd.prog.funcNamed "docstore/docstorelaw24.IntervalMeets" = some 7 by kernel_rfl).symm.trans hf) |>.symm
      obtain rfl : fn = Tryd.f7 := (Option.some.inj (Tryd.func7.symm.trans hfn)).symm
      exact ⟨by kernel_rfl, fun j t ht => by
        rw [Tryd.params7] at ht
        have h3 : t = 22 ∨ t = 22 := by
          rcases j with _ | j
          · exact .inl (by simpa using ht.symm)
          rcases j with _ | j
          · exact .inr (by simpa using ht.symm)
          · simp at ht
        rcases h3 with rfl | rfl
        · exact (show Tryd.prog.wantsStandIn 22 = false by kernel_rfl)
        · exact (show Tryd.prog.wantsStandIn 22 = false by kernel_rfl)⟩)
    (by kernel_rfl)
#print axioms proved
end Go.Proofs.YtdmabhbhlnpkgaaDoor.intervalMeets
