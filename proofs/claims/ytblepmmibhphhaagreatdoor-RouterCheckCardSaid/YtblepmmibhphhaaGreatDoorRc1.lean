/- Parts of the proof, joined: RoCheckWalk, RoCheckLaw. -/
import Derived.Test.YtblepmmibhphhaaGreatDoorRo4
import Derived.Test.YtblepmmibhphhaaGreatDoorB18
import Derived.Test.YtblepmmibhphhaaGreatDoorB4
import Derived.Test.YtblepmmibhphhaaGreatDoorCards
import Derived.Test.YtblepmmibhphhaaGreatDoorTie
import Derived.Lib.LaidIn
import Derived.Lib.LaidU8T
import Derived.PinnedBridge
import Derived.Deep.DeepHandedRow
import Derived.Deep.DeepWitnessRowRef
import Derived.ProofKit
import Derived.SizedLaws
import Derived.OpenShut
import Derived.ShutString
import Derived.ChangeOld
import Derived.Below
import Derived.SevenTiedAt
/- The walk of RouterCheck. -/
namespace Go.Proofs.YtblepmmibhphhaaGreatDoor
open Go.RowKit

set_option maxRecDepth 100000 in
set_option maxHeartbeats 4000000 in
theorem routerCheck_walk (R : Ro) (a : RA) (s ep ver : Int) (w : World) (hT : Tabs w) (h : RR w a R) :
    Calls Tryz.prog 6 #[rval a R, .int .i64 s, .int .i64 ep, .int .i64 ver] w fun e w' => e = .returned (.bool true) ∧ Below w.heap.size w w' := by
  have HT := Lib.hid hT
  have H := Lib.hid h
  have hF := fits_any R a [] none 0 0
  rw [show ([] : List PV).map Prod.snd = [] from rfl, fits_nil] at hF
  have HFI := Lib.hid fun (wr : World) (hb : Below w.heap.size w wr) => hF wr (h.step hb) SL.nil
  obtain ⟨KA, kn, kc, CA, cn, cc⟩ := a
  have B0 : Hid (Blk (w.alloc (Obj.cells (rarr ⟨KA, kn, kc, CA, cn, cc⟩ R) 45)) w.heap.size 45 (rarr ⟨KA, kn, kc, CA, cn, cc⟩ R)) := Blk.new_at rfl
  have BE := Lib.hid ((Below.refl w.heap.size w).alloc (Nat.le_refl _) (Obj.cells (rarr ⟨KA, kn, kc, CA, cn, cc⟩ R) 45))
  clear hT h hF
  go_enter Tryz.func6, Tryz.ntmps6
  go_upto_region 1 with fail
  change Code.wp _ _ _ _ (w.alloc (Obj.cells (rarr ⟨KA, kn, kc, CA, cn, cc⟩ R) 45))
  generalize w.alloc (Obj.cells (rarr ⟨KA, kn, kc, CA, cn, cc⟩ R) 45) = wa at *
  obtain ⟨q0, q1, q2, q3, q4, q5, qz⟩ := blk_ro B0.out
  simp only at q1 q5
  by_cases hv : routE R = 0
  · have hfd : decide (routE R = 0) = true := decide_eq_true hv
    rw [hfd] at HFI
    have HVR := Lib.hid ((routE_iff R).1 hv)
    clear hv hfd
    go_wp2_with fail
    refine (HFI.out _ BE.out).mono ?_
    rintro e w1 ⟨rfl, hb⟩
    replace B0 := Lib.hid (B0.out.step hb)
    replace BE := Lib.hid (BE.out.step' hb)
    clear hb HFI q0 q1 q2 q3 q4 q5 qz
    obtain ⟨q0, q1, q2, q3, q4, q5, qz⟩ := blk_ro B0.out
    simp only at q1 q5
    obtain ⟨V, hV⟩ : ∃ V : Int, verR s R.cs = V := ⟨_, rfl⟩
    have hRV : rverR s R.cs = V := by rw [← hV]; exact rver_eq fun c hc => (HVR.out.good c hc).2.2.1
    obtain ⟨Z, hZ⟩ : ∃ Z : Int, chkE R V ep ver = Z := ⟨_, rfl⟩
    have hV0 : chkE R V R.ep V = 0 := by unfold chkE; rw [if_pos ⟨rfl, rfl⟩]
    have g0 : ∀ q : BW w1, q.val.cell? ⟨w.heap.size, 0, none⟩ = some (.string R.sp) := fun q => q.cell q0
    have g1 : ∀ q : BW w1, q.val.cell? ⟨w.heap.size, 1, none⟩ = some (.slice KA kn kc) := fun q => q.cell q1
    have g2 : ∀ q : BW w1, q.val.cell? ⟨w.heap.size, 2, none⟩ = some (.bool R.ha) := fun q => q.cell q2
    have g3 : ∀ q : BW w1, q.val.cell? ⟨w.heap.size, 3, none⟩ = some (.int .i64 R.ep) := fun q => q.cell q3
    have g4 : ∀ q : BW w1, q.val.cell? ⟨w.heap.size, 4, none⟩ = some (.int .i64 R.ver) := fun q => q.cell q4
    have g5 : ∀ q : BW w1, q.val.cell? ⟨w.heap.size, 5, none⟩ = some (.slice CA cn cc) := fun q => q.cell q5
    have K1 : Hid (∀ q : BW w1, Calls Tryz.prog 29 #[.agg #[.string R.sp, .slice KA kn kc, .bool R.ha, .int .i64 R.ep, .int .i64 R.ver, .slice CA cn cc], .int .i64 s, .int .i64 ep, .int .i64 ver] q.val fun e w'' => e = .returned (.int .i64 Z) ∧ ∃ q : BW w1, w'' = q.val) := fun q =>
      Calls.bw (by have := check_any R ⟨KA, kn, kc, CA, cn, cc⟩ s ep ver q.val ((H.out.step BE.out).step q.below); rw [hV, hZ] at this; exact this)
    have K2 : Hid (∀ q : BW w1, Calls Tryz.prog 30 #[.agg #[.string R.sp, .slice KA kn kc, .bool R.ha, .int .i64 R.ep, .int .i64 R.ver, .slice CA cn cc], .int .i64 s, .int .i64 ep, .int .i64 ver] q.val fun e w'' => e = .returned (.int .i64 Z) ∧ ∃ q : BW w1, w'' = q.val) := fun q =>
      Calls.bw (by have := rcheck_any R ⟨KA, kn, kc, CA, cn, cc⟩ s ep ver q.val ((H.out.step BE.out).step q.below); rw [hRV, hZ] at this; exact this)
    have K3 : Hid (∀ q : BW w1, Calls Tryz.prog 31 #[.agg #[.string R.sp, .slice KA kn kc, .bool R.ha, .int .i64 R.ep, .int .i64 R.ver, .slice CA cn cc], .int .i64 s] q.val fun e w'' => e = .returned (.int .i64 V) ∧ ∃ q : BW w1, w'' = q.val) := fun q =>
      Calls.bw (by have := rversion_any R ⟨KA, kn, kc, CA, cn, cc⟩ s q.val ((H.out.step BE.out).step q.below); rw [hRV] at this; exact this)
    have K4 : Hid (∀ q : BW w1, Calls Tryz.prog 29 #[.agg #[.string R.sp, .slice KA kn kc, .bool R.ha, .int .i64 R.ep, .int .i64 R.ver, .slice CA cn cc], .int .i64 s, .int .i64 R.ep, .int .i64 V] q.val fun e w'' => e = .returned (.int .i64 0) ∧ ∃ q : BW w1, w'' = q.val) := fun q =>
      Calls.bw (by have := check_any R ⟨KA, kn, kc, CA, cn, cc⟩ s R.ep V q.val ((H.out.step BE.out).step q.below); rw [hV, hV0] at this; exact this)
    have K5 : Hid (∀ q : BW w1, Calls Tryz.prog 21 #[] q.val fun e w'' => e = .returned (.bool true) ∧ ∃ q : BW w1, w'' = q.val) := fun q =>
      Calls.bw (awake50_any q.val ((HT.out.step BE.out).step q.below))
    have zz : (Z == Z) = true := by simp
    clear q0 q1 q2 q3 q4 q5 qz hV hRV hZ hV0 B0
    go_upto_region 3 with fail
    refine wp_region_bw (by kernel_rfl) (by kernel_rfl) ?_
    repeat (go_big_quiet_step (first | (with_reducible exact K1.out _) | (with_reducible exact K2.out _) | (with_reducible exact K3.out _) | (with_reducible exact K4.out _) | (with_reducible exact K5.out _)))
    refine wpQuiet_nil ?_
    rintro _ ⟨kw, rfl⟩
    have ZE := Lib.hid (BE.out.step' kw.below)
    clear g0 g1 g2 g3 g4 g5 K1 K2 K3 K4 K5
    generalize kw.val = w5 at *
    go_wp2_with fail
    go_ret
    exact ⟨rfl, ZE.out⟩
  · have hfd : decide (routE R = 0) = false := decide_eq_false hv
    rw [hfd] at HFI
    clear hv hfd
    go_wp2_with fail
    refine (HFI.out _ BE.out).mono ?_
    rintro e w1 ⟨rfl, hb⟩
    replace BE := Lib.hid (BE.out.step' hb)
    clear hb HFI q0 q1 q2 q3 q4 q5 qz
    go_wp2_with fail
    refine (awake50_any _ (HT.out.step BE.out)).mono ?_
    rintro e w2 ⟨rfl, hb⟩
    have CE := Lib.hid (BE.out.step' hb)
    clear hb
    go_wp2_with fail
    go_ret
    exact ⟨rfl, CE.out⟩

end Go.Proofs.YtblepmmibhphhaaGreatDoor


/- The law RouterCheck returns true for every input, and each argument reads behind the call as it read before; the tables of unicode/utf8 that it reads are tied to the program's text. Conditions: none beyond the card. The frame is printed by gen_card.py. -/
namespace Go.Proofs.YtblepmmibhphhaaGreatDoor.routerCheck
open Go Go.Shelf Go.ChangeShapes Go.WideShapes Go.ChangeAt Go.RowKit Go.Lib
set_option linter.unusedVariables false

theorem own : ownKnob Tryz.prog.godebug = none := by kernel_rfl
theorem laidOut : laidOutB Tryz.prog = true := by kernel_rfl
theorem accept_eq : Rows.laid_unicode_utf8_acceptRanges = Lib.acceptData := by kernel_rfl
theorem first_eq : Rows.laid_unicode_utf8_first = Lib.firstData := Go.Pinned.utf8First_eq
noncomputable def laidWorld (os : Os) : World :=
  let w0 := World.holding Tryz.prog os ⟨#[], #[], []⟩
  let put (h : Array Obj) (g : Nat) (cs : Array Value) : Array Obj := h.modify g fun
    | .cells _ t frozen => .cells cs t frozen
    | o => o
  let h1 := put w0.heap 0 (Lib.firstTab.map fun z => Value.int .u8 z).toArray
  let h2 := put h1 1 ((List.range 16).flatMap fun i => [Value.int .u8 (Lib.accLo i), Value.int .u8 (Lib.accHi i)]).toArray
  { w0 with heap := h2 }
theorem laid_met (os : Os) (args : Array Value) : laidMet Tryz.prog Rows.routerCheckRow.laid ((laidWorld os).forCall (fun _ _ => 0) ⟨#[], args, []⟩).memory :=
  (LaidIn.of_run (l := [("unicode/utf8.acceptRanges", Rows.laid_unicode_utf8_acceptRanges), ("unicode/utf8.first", Rows.laid_unicode_utf8_first)]) [1, 0] 8 (by kernel_rfl) (by kernel_rfl) (by kernel_rfl) (by kernel_rfl)).met

theorem witness_row (os : Os) {H : Type} (enc : TypeId × Value → H) :
    (OpenSpec.ofChange Rows.routerCheckSpec).preRow enc Tryz.prog Tryz.f6 Rows.routerCheckRow.domain false Rows.routerCheckRow.laid ((laidWorld os).forCall (fun _ _ => 0) ⟨#[], #[.agg #[.string ⟨#[]⟩, .slice none 0 0, .bool false, .int .i64 0, .int .i64 0, .slice none 0 0], .int .i64 0, .int .i64 0, .int .i64 0], []⟩).memory #[.agg #[.string ⟨#[]⟩, .slice none 0 0, .bool false, .int .i64 0, .int .i64 0, .slice none 0 0], .int .i64 0, .int .i64 0, .int .i64 0] := by
  have hw : (DataW.whole enc Tryz.prog ((laidWorld os).forCall (fun _ _ => 0) ⟨#[], #[.agg #[.string ⟨#[]⟩, .slice none 0 0, .bool false, .int .i64 0, .int .i64 0, .slice none 0 0], .int .i64 0, .int .i64 0, .int .i64 0], []⟩).memory Tryz.f6.params.toList (OpenSpec.ofChange Rows.routerCheckSpec).vars false (#[.agg #[.string ⟨#[]⟩, .slice none 0 0, .bool false, .int .i64 0, .int .i64 0, .slice none 0 0], .int .i64 0, .int .i64 0, .int .i64 0] : Array Value).toList 8).map (fun x => (x.1, x.2.1)) =
      some ([.agg [.lit (.string []), .agg [.nil, .lit (.bool false)], .lit (.int .i64 0), .lit (.int .i64 0), .nil], .lit (.int .i64 0), .lit (.int .i64 0), .lit (.int .i64 0)], []) := by kernel_rfl
  obtain ⟨⟨x1, x2, x3⟩, hx, hx1⟩ := Option.map_eq_some_iff.1 hw
  simp only [Prod.mk.injEq] at hx1
  obtain ⟨rfl, rfl⟩ := hx1
  exact OpenSpec.preRow_of_cond 8 hx (by kernel_rfl) (fun k hk => by cases hk) (by kernel_rfl) (laid_met os _)

set_option maxRecDepth 100000 in
set_option maxHeartbeats 2000000 in
theorem lifted (os : Os) (started : os.Started) (H : Type) (enc : TypeId × Value → H) (F0 : Stop.Interp) :
    ReturnsInHanded {} Tryz.checked os 6 .any ((OpenSpec.ofChange Rows.routerCheckSpec).preRow enc Tryz.prog Tryz.f6 Rows.routerCheckRow.domain false Rows.routerCheckRow.laid) (((OpenSpec.ofChange Rows.routerCheckSpec).at F0).post enc Tryz.prog Tryz.f6 false true false false) := by
  refine returnsInHanded_of_row (C := Tryz.checked) (s := OpenSpec.ofChange Rows.routerCheckSpec) own started (by kernel_rfl) Tryz.func6
    (witness_row_atRef (enc := enc) (C := Tryz.checked) false (laidWorld os) #[.agg #[.string ⟨#[]⟩, .slice none 0 0, .bool false, .int .i64 0, .int .i64 0, .slice none 0 0], .int .i64 0, .int .i64 0, .int .i64 0] rfl (by kernel_rfl) (by kernel_rfl) (by kernel_rfl) (witness_row os enc)) ?_
  intro W base args ds gs before hval0 hW hq1 hq2 hwt hL hq5 hq6
  have hval : ∀ (j : Nat) t v, Tryz.f6.params[j]? = some t → args[j]? = some v → Value.okWide Tryz.prog W .any base t v := hval0
  have hW' := hW
  obtain ⟨p, q, hA0, hV, rfl, hfz, hnd⟩ := hW
  have hA : DataW.TrodAll enc Tryz.prog W 0 (fun _ => true) true Tryz.f6.params.toList args.toList ds p := hA0
  rw [Tryz.params6] at hA hval hwt
  obtain ⟨v0, vs0, d0, ds0, p0, q0, hargs, rfl, rfl, h0, r0⟩ := trodAll_cons hA
  obtain ⟨v1, vs1, d1, ds1, p1, q1, rfl, rfl, rfl, h1, r1⟩ := trodAll_cons r0
  obtain ⟨v2, vs2, d2, ds2, p2, q2, rfl, rfl, rfl, h2, r2⟩ := trodAll_cons r1
  obtain ⟨v3, vs3, d3, ds3, p3, q3, rfl, rfl, rfl, h3, r3⟩ := trodAll_cons r2
  obtain ⟨rfl, rfl, rfl⟩ := trodAll_nil r3
  obtain rfl : args = #[v0, v1, v2, v3] := by cases args; simp_all
  obtain ⟨rfl, rfl⟩ := trodVars_none hV
  obtain ⟨hlt0, hwt0⟩ := light_each hwt
  obtain ⟨hlt1, hwt1⟩ := light_each hwt0
  obtain ⟨hlt2, hwt2⟩ := light_each hwt1
  obtain ⟨hlt3, hwt3⟩ := light_each hwt2
  have trd0 := h0
  have lt0 : ∀ x ∈ p0, x.block < W.heap.size := by obtain ⟨m, hm⟩ := trd0; exact DataW.trod_lt m _ _ _ hm
  obtain ⟨ra0, R0, rfl, o0⟩ := open_routes (hval 0 45 v0 rfl rfl) h0 hlt0
  have trd1 := h1
  have lt1 : ∀ x ∈ p1, x.block < W.heap.size := by obtain ⟨m, hm⟩ := trd1; exact DataW.trod_lt m _ _ _ hm
  obtain ⟨i1, rfl, w1⟩ := open_i64 (hval 1 3 v1 rfl rfl) h1
  have trd2 := h2
  have lt2 : ∀ x ∈ p2, x.block < W.heap.size := by obtain ⟨m, hm⟩ := trd2; exact DataW.trod_lt m _ _ _ hm
  obtain ⟨i2, rfl, w2⟩ := open_i64 (hval 2 3 v2 rfl rfl) h2
  have trd3 := h3
  have lt3 : ∀ x ∈ p3, x.block < W.heap.size := by obtain ⟨m, hm⟩ := trd3; exact DataW.trod_lt m _ _ _ hm
  obtain ⟨i3, rfl, w3⟩ := open_i64 (hval 3 3 v3 rfl rfl) h3
  clear hA0 hval0
  have htab : Tabs W := by
    have r1 := Lib.laidMet.reads hL (.tail _ (.head _))
    have r2 := Lib.laidMet.reads hL (.head _)
    rw [first_eq] at r1
    rw [accept_eq] at r2
    exact utf8Tabs_of_readsT (U8Types.of196 laysValid) ⟨by kernel_rfl, by kernel_rfl, by kernel_rfl, by kernel_rfl, by kernel_rfl, by kernel_rfl, by kernel_rfl⟩ r1 r2
  refine (routerCheck_walk R0 ra0 i1 i2 i3 W htab o0).mono fun e W' ⟨he, bel⟩ => ?_
  subst he
  exact ⟨_, rfl, _, _, _, [], _, [], hW', trodAll_mk1 (shut_bool Tryz.underlying4 _), (trodAll_cons_mk (Below.trod laidOut (by kernel_rfl) (of_decide_eq_true (by kernel_rfl)) trd0 bel lt0) (trodAll_cons_mk (Below.trod laidOut (by kernel_rfl) (of_decide_eq_true (by kernel_rfl)) trd1 bel lt1) (trodAll_cons_mk (Below.trod laidOut (by kernel_rfl) (of_decide_eq_true (by kernel_rfl)) trd2 bel lt2) (trodAll_cons_mk (Below.trod laidOut (by kernel_rfl) (of_decide_eq_true (by kernel_rfl)) trd3 bel lt3) trodAll_mk0)))), rfl, bel.frame _, fun h => by cases h⟩

theorem over : Rows.RouterCheckSaid :=
  OpenClaim.holds_of_cond 6 Tryz.f6 rfl rfl rfl rfl rfl rfl rfl ⟨rfl, rfl, rfl, rfl, rfl⟩ rfl rfl rfl rfl rfl (by kernel_rfl) Tryz.func6 (by kernel_rfl)
    (of_decide_eq_true (by kernel_rfl)) (by unfold Func.isWrapper; first | (rw [if_pos (by decide +kernel)]; kernel_rfl) | (rw [if_neg (by decide +kernel)]; exact ⟨rfl, rfl⟩))
    (fun os started H enc _ F0 => by rw [OpenClaim.pre_eq_preRow]; exact lifted os started H enc F0)

theorem proved : Rows.RouterCheckCardSaid :=
  Claim7.holds_tied_plain_at .later [] [.data, .pinned] true (true, "d760985c22148e55cd1a8abc7402baa4a725f89cf5395fb4c61866adb12a1757") false
    over (fun _ h => by cases h) (by kernel_rfl) (fun _ h => by cases h) routerCheck_row_tie rfl ⟨rfl, rfl⟩ (by kernel_rfl) rfl
    (fun f fn hf hfn => by
      obtain rfl : f = 6 := Option.some.inj ((show Tryz.prog.funcNamed "docstore/docstorelaw50.RouterCheck" = some 6 by kernel_rfl).symm.trans hf) |>.symm
      obtain rfl : fn = Tryz.f6 := (Option.some.inj (Tryz.func6.symm.trans hfn)).symm
      exact ⟨by kernel_rfl, fun j t ht => by
        rw [Tryz.params6] at ht
        have h3 : t = 45 ∨ t = 3 ∨ t = 3 ∨ t = 3 := by
          rcases j with _ | j
          · exact .inl (by simpa using ht.symm)
          rcases j with _ | j
          · exact .inr (.inl (by simpa using ht.symm))
          rcases j with _ | j
          · exact .inr (.inr (.inl (by simpa using ht.symm)))
          rcases j with _ | j
          · exact .inr (.inr (.inr (by simpa using ht.symm)))
          · simp at ht
        rcases h3 with rfl | rfl | rfl | rfl
        · exact (show Tryz.prog.wantsStandIn 45 = false by kernel_rfl)
        · exact (show Tryz.prog.wantsStandIn 3 = false by kernel_rfl)
        · exact (show Tryz.prog.wantsStandIn 3 = false by kernel_rfl)
        · exact (show Tryz.prog.wantsStandIn 3 = false by kernel_rfl)⟩)
    (by kernel_rfl)
#print axioms proved
end Go.Proofs.YtblepmmibhphhaaGreatDoor.routerCheck

