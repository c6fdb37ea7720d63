/- The walk of the law IntervalPoints. · The law IntervalPoints returns true for every input, and each argument reads behind the call as it read before; the tables of unicode/utf8 that it reads are tied to the program's text. Conditions: none beyond the card. The frame is printed by gen_card.py. -/
import Derived.Test.YtdmabhbhlnpkgaaDoorIvRefA
import Derived.Test.YtdmabhbhlnpkgaaDoorIvBaseD
import Derived.Test.YtdmabhbhlnpkgaaDoorValUtf8
import Derived.Test.YtdmabhbhlnpkgaaDoorValOpenL
import Derived.Test.YtdmabhbhlnpkgaaDoorCards
import Derived.Test.YtdmabhbhlnpkgaaDoorTie
import Derived.Lib.LaidIn
import Derived.Lib.LaidU8T
import Derived.PinnedBridge
import Derived.Deep.DeepHandedRow
import Derived.Deep.DeepWitnessRowRef
import Derived.ProofKit
import Derived.SizedLaws
import Derived.OpenShut
import Derived.ShutString
import Derived.ChangeOld
import Derived.Below
import Derived.SevenTiedAt
namespace Go.Proofs.YtdmabhbhlnpkgaaDoor
open Go.RowKit

set_option maxRecDepth 100000 in
set_option maxHeartbeats 2000000 in
theorem intervalPoints_walk (A : Option Addr) (n c : Nat) (ps : List PV) (w : World) (hT : Tabs w) (h : SL (fun _ => True) w A n c ps) :
    Calls Tryd.prog 5 #[.slice A n c] w fun e w' => e = .returned (.bool true) ∧ Below w.heap.size w w' := by
  have HT := Lib.hid hT
  have H := Lib.hid h
  have HL := Lib.hid h.sr.ln
  have hz := h.sz
  unfold reach at hz
  clear hT h
  go_enter Tryd.func5, Tryd.ntmps5
  by_cases hn : n ≤ 100
  rotate_left
  · have gn : (100 : Int) < (n : Int) := by omega
    go_wp2_with fail
    refine (awake24_any _ HT.out).mono ?_
    rintro e w9 ⟨rfl, hb9⟩
    go_wp2_with fail
    go_ret
    exact ⟨rfl, hb9⟩
  have gn : ¬ (100 : Int) < (n : Int) := by omega
  go_wp2_with fail
  go_loopw [3] (fun v3 wr => ∃ i : Nat, i ≤ n ∧ v3 = .int .i64 i ∧ Below w.heap.size w wr) (fun v3 _ => n - (intOf v3).toNat)
  case atStart => exact ⟨0, Nat.zero_le _, rfl, Below.refl _ _⟩
  case round =>
    obtain ⟨i, hi, rfl, I⟩ := hrel
    have J := Lib.hid I
    by_cases hlt : i < n
    · obtain ⟨p, hp⟩ : ∃ p, ps[i]? = some p := ⟨_, List.getElem?_eq_getElem (by have := HL.out; omega)⟩
      obtain ⟨b, off, rfl, _, hu, hr⟩ := H.out.vat hp
      have HR := Lib.hid (hr.step I)
      obtain ⟨y0, y1, y2, y3, y4⟩ := hu.keep (I.block b hu.lt)
      clear hp hu hr I
      go_wp2_with fail
      refine (fewV_any p.2 p.1 _ 100 HR.out (by omega) (by omega)).mono ?_
      rintro e w1 ⟨r, rfl, hb⟩
      have Z := Lib.hid (J.out.step' hb)
      clear hb y0 y1 y2 y3 y4 J HR
      cases r
      · go_wp2_with fail
        refine (awake24_any _ (HT.out.step Z.out)).mono ?_
        rintro e w9 ⟨rfl, hb9⟩
        go_wp2_with fail
        go_ret
        exact ⟨rfl, Z.out.step' hb9⟩
      · go_wp2_with fail
        go_roundw
        case rel => exact ⟨i + 1, by omega, by go_num, Z.out⟩
        case measure => simp [intOf]; omega
    · clear I
      go_wp2_with fail
      refine (points_any ps A n c _ (HT.out.step J.out) (H.out.step J.out) (by omega)).mono ?_
      rintro e w1 ⟨A1, m1, c1, y1, q1, rfl, he, hn1, hm1, hs, hb⟩
      have N1 : Hid (Nrm _ y1) := Lib.hid ⟨_, he, hn1⟩
      have S1 := Lib.hid hs
      have Z1 := Lib.hid (J.out.step' hb)
      clear he hn1 hm1 hs hb
      go_wp2_with fail
      refine (rpoints_any ps A n c _ (H.out.step Z1.out) (by omega)).mono ?_
      rintro e w2 ⟨A2, m2, c2, y2, q2, rfl, he, hn2, hm2, hs, hb⟩
      have N2 : Hid (Nrm _ y2) := Lib.hid ⟨_, he, hn2⟩
      have S2 := Lib.hid hs
      replace S1 := Lib.hid (S1.out.step hb)
      have Z2 := Lib.hid (Z1.out.step' hb)
      have HE : Hid (y1.map ivP = y2.map ivP) := Lib.hid (N1.out.same N2.out fun _ _ => Iff.rfl)
      clear he hn2 hm2 hs hb
      go_wp2_with fail
      refine (same24_eq y1 y2 A1 A2 m1 m2 c1 c2 _ S1.out S2.out HE.out).mono ?_
      rintro e w3 ⟨rfl, hb⟩
      have Z3 := Lib.hid (Z2.out.step' hb)
      clear hb
      go_wp2_with fail
      refine (awake24_any _ (HT.out.step Z3.out)).mono ?_
      rintro e w9 ⟨rfl, hb9⟩
      go_wp2_with fail
      go_ret
      exact ⟨rfl, Z3.out.step' hb9⟩

end Go.Proofs.YtdmabhbhlnpkgaaDoor

namespace Go.Proofs.YtdmabhbhlnpkgaaDoor.intervalPoints
open Go Go.Shelf Go.ChangeShapes Go.WideShapes Go.ChangeAt Go.RowKit Go.Lib
set_option linter.unusedVariables false

theorem own : ownKnob Tryd.prog.godebug = none := by kernel_rfl
theorem laidOut : laidOutB Tryd.prog = true := by kernel_rfl
theorem accept_eq : Rows.laid_unicode_utf8_acceptRanges = Lib.acceptData := by kernel_rfl
theorem first_eq : Rows.laid_unicode_utf8_first = Lib.firstData := Go.Pinned.utf8First_eq
noncomputable def laidWorld (os : Os) : World :=
  let w0 := World.holding Tryd.prog os ⟨#[], #[], []⟩
  let put (h : Array Obj) (g : Nat) (cs : Array Value) : Array Obj := h.modify g fun
    | .cells _ t frozen => .cells cs t frozen
    | o => o
  let h1 := put w0.heap 0 (Lib.firstTab.map fun z => Value.int .u8 z).toArray
  let h2 := put h1 1 ((List.range 16).flatMap fun i => [Value.int .u8 (Lib.accLo i), Value.int .u8 (Lib.accHi i)]).toArray
  { w0 with heap := h2 }
theorem laid_met (os : Os) (args : Array Value) : laidMet Tryd.prog Rows.intervalPointsRow.laid ((laidWorld os).forCall (fun _ _ => 0) ⟨#[], args, []⟩).memory :=
  (LaidIn.of_run (l := [("unicode/utf8.acceptRanges", Rows.laid_unicode_utf8_acceptRanges), ("unicode/utf8.first", Rows.laid_unicode_utf8_first)]) [1, 0] 8 (by kernel_rfl) (by kernel_rfl) (by kernel_rfl) (by kernel_rfl)).met

theorem witness_row (os : Os) {H : Type} (enc : TypeId × Value → H) :
    (OpenSpec.ofChange Rows.intervalPointsSpec).preRow enc Tryd.prog Tryd.f5 Rows.intervalPointsRow.domain false Rows.intervalPointsRow.laid ((laidWorld os).forCall (fun _ _ => 0) ⟨#[], #[.slice none 0 0], []⟩).memory #[.slice none 0 0] := by
  have hw : (DataW.whole enc Tryd.prog ((laidWorld os).forCall (fun _ _ => 0) ⟨#[], #[.slice none 0 0], []⟩).memory Tryd.f5.params.toList (OpenSpec.ofChange Rows.intervalPointsSpec).vars false (#[.slice none 0 0] : Array Value).toList 8).map (fun x => (x.1, x.2.1)) =
      some ([.nil], []) := by kernel_rfl
  obtain ⟨⟨x1, x2, x3⟩, hx, hx1⟩ := Option.map_eq_some_iff.1 hw
  simp only [Prod.mk.injEq] at hx1
  obtain ⟨rfl, rfl⟩ := hx1
  exact OpenSpec.preRow_of_cond 8 hx (by kernel_rfl) (fun k hk => by cases hk) (by kernel_rfl) (laid_met os _)

set_option maxRecDepth 100000 in
set_option maxHeartbeats 2000000 in
theorem lifted (os : Os) (started : os.Started) (H : Type) (enc : TypeId × Value → H) (F0 : Stop.Interp) :
    ReturnsInHanded {} Tryd.checked os 5 .any ((OpenSpec.ofChange Rows.intervalPointsSpec).preRow enc Tryd.prog Tryd.f5 Rows.intervalPointsRow.domain false Rows.intervalPointsRow.laid) (((OpenSpec.ofChange Rows.intervalPointsSpec).at F0).post enc Tryd.prog Tryd.f5 false true false false) := by
  refine returnsInHanded_of_row (C := Tryd.checked) (s := OpenSpec.ofChange Rows.intervalPointsSpec) own started (by kernel_rfl) Tryd.func5
    (witness_row_atRef (enc := enc) (C := Tryd.checked) false (laidWorld os) #[.slice none 0 0] rfl (by kernel_rfl) (by kernel_rfl) (by kernel_rfl) (witness_row os enc)) ?_
  intro W base args ds gs before hval0 hW hq1 hq2 hwt hL hq5 hq6
  have hval : ∀ (j : Nat) t v, Tryd.f5.params[j]? = some t → args[j]? = some v → Value.okWide Tryd.prog W .any base t v := hval0
  have hW' := hW
  obtain ⟨p, q, hA0, hV, rfl, hfz, hnd⟩ := hW
  have hA : DataW.TrodAll enc Tryd.prog W 0 (fun _ => true) true Tryd.f5.params.toList args.toList ds p := hA0
  rw [Tryd.params5] at hA hval hwt
  obtain ⟨v0, vs0, d0, ds0, p0, q0, hargs, rfl, rfl, h0, r0⟩ := trodAll_cons hA
  obtain ⟨rfl, rfl, rfl⟩ := trodAll_nil r0
  obtain rfl : args = #[v0] := by cases args; simp_all
  obtain ⟨rfl, rfl⟩ := trodVars_none hV
  obtain ⟨hlt0, hwt0⟩ := light_each hwt
  have trd0 := h0
  have lt0 : ∀ x ∈ p0, x.block < W.heap.size := by obtain ⟨m, hm⟩ := trd0; exact DataW.trod_lt m _ _ _ hm
  obtain ⟨A0, n0, k0, ps0, rfl, o0⟩ := open_values (hval 0 27 v0 rfl rfl) h0 hlt0
  clear hA0 hval0
  have htab : Tabs W := by
    have r1 := Lib.laidMet.reads hL (.tail _ (.head _))
    have r2 := Lib.laidMet.reads hL (.head _)
    rw [first_eq] at r1
    rw [accept_eq] at r2
    exact utf8Tabs_of_readsT (U8Types.of196 laysValid) ⟨by kernel_rfl, by kernel_rfl, by kernel_rfl, by kernel_rfl, by kernel_rfl, by kernel_rfl, by kernel_rfl⟩ r1 r2
  refine (intervalPoints_walk A0 n0 k0 ps0 W htab o0).mono fun e W' ⟨he, bel⟩ => ?_
  subst he
  exact ⟨_, rfl, _, _, _, [], _, [], hW', trodAll_mk1 (shut_bool Tryd.underlying4 _), (trodAll_cons_mk (Below.trod laidOut (by kernel_rfl) (of_decide_eq_true (by kernel_rfl)) trd0 bel lt0) trodAll_mk0), rfl, bel.frame _, fun h => by cases h⟩

theorem over : Rows.IntervalPointsSaid :=
  OpenClaim.holds_of_cond 5 Tryd.f5 rfl rfl rfl rfl rfl rfl rfl ⟨rfl, rfl, rfl, rfl, rfl⟩ rfl rfl rfl rfl rfl (by kernel_rfl) Tryd.func5 (by kernel_rfl)
    (of_decide_eq_true (by kernel_rfl)) (by unfold Func.isWrapper; first | (rw [if_pos (by decide +kernel)]; kernel_rfl) | (rw [if_neg (by decide +kernel)]; exact ⟨rfl, rfl⟩))
    (fun os started H enc _ F0 => by rw [OpenClaim.pre_eq_preRow]; exact lifted os started H enc F0)

theorem proved : Rows.IntervalPointsCardSaid :=
  Claim7.holds_tied_plain_at .later [] [.data, .pinned] true (true, "87cb7ca0f2df7e342740e20986d752edf5c3e99baf4577ef5374746f9367e1e3") false
    over (fun _ h => by cases h) (by kernel_rfl) (fun _ h => by cases h) intervalPoints_row_tie rfl ⟨rfl, rfl⟩ (by kernel_rfl) rfl
    (fun f fn hf hfn => by
      obtain rfl : f = 5 := Option.some.inj ((show Tryd.prog.funcNamed "docstore/docstorelaw24.IntervalPoints" = some 5 by kernel_rfl).symm.trans hf) |>.symm
      obtain rfl : fn = Tryd.f5 := (Option.some.inj (Tryd.func5.symm.trans hfn)).symm
      exact ⟨by kernel_rfl, fun j t ht => by
        rw [Tryd.params5] at ht
        have h3 : t = 27 := by
          rcases j with _ | j
          · exact (by simpa using ht.symm)
          · simp at ht
        rcases h3 with rfl
        exact (show Tryd.prog.wantsStandIn 27 = false by kernel_rfl)⟩)
    (by kernel_rfl)
#print axioms proved
end Go.Proofs.YtdmabhbhlnpkgaaDoor.intervalPoints
