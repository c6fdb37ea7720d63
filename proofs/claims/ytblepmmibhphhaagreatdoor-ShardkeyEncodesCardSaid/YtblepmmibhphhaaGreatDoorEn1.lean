/- Parts of the proof, joined: ShEncodesWalk, ShEncodesLaw. -/
import Derived.Test.YtblepmmibhphhaaGreatDoorB18
import Derived.Test.YtblepmmibhphhaaGreatDoorB8
import Derived.Test.YtblepmmibhphhaaGreatDoorB4
import Derived.Test.YtblepmmibhphhaaGreatDoorCards
import Derived.Test.YtblepmmibhphhaaGreatDoorTie
import Derived.Lib.LaidIn
import Derived.Lib.LaidU8T
import Derived.PinnedBridge
import Derived.Deep.DeepHandedRow
import Derived.Deep.DeepWitnessRowRef
import Derived.ProofKit
import Derived.SizedLaws
import Derived.OpenShut
import Derived.ShutString
import Derived.ChangeOld
import Derived.Below
import Derived.SevenTiedAt
/- The walk of ShardkeyEncodes. -/
namespace Go.Proofs.YtblepmmibhphhaaGreatDoor
open Go.RowKit

theorem keyE_parts {ks : List Od} {ha : Bool} (h : keyE ks ha = 0) : ks.length ≤ 8 ∧ 1 ≤ ks.length ∧ (ha = true → ks.length = 1) := by
  unfold keyE at h
  split at h
  · rename_i h1; exact absurd h h1
  · rename_i h1
    split at h
    · cases h
    · rename_i h2
      have h3 : ordE ks = 0 := by simpa using h1
      unfold ordE at h3
      split at h3
      · cases h3
      · rename_i h4
        have h5 : ¬ ks.length = 0 := fun e => h2 (.inl e)
        exact ⟨by omega, by omega, fun hh => by
          have : ¬ 1 < ks.length := fun e => h2 (.inr ⟨hh, e⟩)
          omega⟩

set_option maxRecDepth 100000 in
set_option maxHeartbeats 4000000 in
theorem shardkeyEncodes_walk (ks : List Od) (ha : Bool) (A : Option Addr) (n cc : Nat) (x : Val) (c : VC) (w : World) (hT : Tabs w) (hk : KS w A n cc ks) (hx : RW w c x) :
    Calls Tryz.prog 3 #[.agg #[.slice A n cc, .bool ha], c.val] w fun e w' => e = .returned (.bool true) ∧ Below w.heap.size w w' := by
  have HT := Lib.hid hT
  have HN := Lib.hid hk.ln
  have HX := Lib.hid hx
  have HK := Lib.hid hk
  have hnz : (n : Int) ≤ 8796093022208 := by obtain ⟨os, h⟩ := hk; have := h.sz; unfold reach at this; omega
  have I0 : Hid (VlI w #[.slice A n cc, .bool ha] c (.slice none 0 0) [] ((w.alloc (Obj.cells #[.slice A n cc, .bool ha] 24)).alloc (Obj.cells c.arr 28))) := VlI.start
  clear hk hx hT
  go_enter Tryz.func3, Tryz.ntmps3
  go_upto_region 1 with fail
  change Code.wp _ _ _ _ ((w.alloc (Obj.cells #[.slice A n cc, .bool ha] 24)).alloc (Obj.cells c.arr 28))
  generalize ((w.alloc (Obj.cells #[.slice A n cc, .bool ha] 24)).alloc (Obj.cells c.arr 28)) = wa at *
  have B0 := Lib.hid I0.out.b0
  have B1 := Lib.hid I0.out.b1
  have BE := Lib.hid I0.out.vs.bel
  clear I0
  have k0 := B0.out.cell 0
  have k1 := B0.out.cell 1
  simp at k0 k1
  by_cases h20 : 20 < n
  · have h20' : (20 : Int) < (n : Int) := by omega
    go_wp2_with fail
    refine (awake48_any wa (HT.out.step BE.out)).mono ?_
    rintro e w1 ⟨rfl, hb⟩
    have CE := Lib.hid (BE.out.step' hb)
    clear hb BE
    go_wp2_with fail
    go_ret
    exact ⟨rfl, CE.out⟩
  have h20' : ¬ ((20 : Int) < (n : Int)) := by omega
  have HV := Lib.hid (rshardkey_any ks ha A n cc wa (HK.out.step BE.out))
  by_cases hE : keyE ks ha = 0
  rotate_left
  · have hEb : (keyE ks ha != 0) = true := by simpa using hE
    obtain ⟨E, hEE⟩ : ∃ E, keyE ks ha = E := ⟨_, rfl⟩
    rw [hEE] at HV hEb
    clear hE hEE
    go_wp2_with fail
    refine HV.out.mono ?_
    rintro e w1 ⟨rfl, hb⟩
    have CE := Lib.hid (BE.out.step' hb)
    clear hb BE HV B0 B1 k0 k1
    go_wp2_with fail
    refine (awake48_any w1 (HT.out.step CE.out)).mono ?_
    rintro e w2 ⟨rfl, hb⟩
    have DE := Lib.hid (CE.out.step' hb)
    clear hb CE
    go_wp2_with fail
    go_ret
    exact ⟨rfl, DE.out⟩
  rw [hE] at HV
  have HP := Lib.hid (keyE_parts hE)
  clear hE
  go_wp2_with fail
  refine HV.out.mono ?_
  rintro e w1 ⟨rfl, hb⟩
  have C0 := Lib.hid (B0.out.step hb)
  have C1 := Lib.hid (B1.out.step hb)
  have CE := Lib.hid (BE.out.step' hb)
  clear hb BE HV B0 B1 k0 k1
  obtain ⟨a0, a1, a2, a3, a4⟩ := VAt.of_blk C1.out
  simp only [Nat.zero_add] at a0 a1 a2 a3 a4
  have HV := Lib.hid (rvalid_any x c w1 (HX.out.step CE.out))
  cases hv : validV x
  · rw [hv] at HV
    clear hv
    go_wp2_with fail
    refine HV.out.mono ?_
    rintro e w2 ⟨rfl, hb⟩
    have DE := Lib.hid (CE.out.step' hb)
    clear hb CE HV C0 C1 a0 a1 a2 a3 a4
    go_wp2_with fail
    refine (awake48_any w2 (HT.out.step DE.out)).mono ?_
    rintro e w3 ⟨rfl, hb⟩
    have EE := Lib.hid (DE.out.step' hb)
    clear hb DE
    go_wp2_with fail
    go_ret
    exact ⟨rfl, EE.out⟩
  rw [hv] at HV
  clear hv
  go_wp2_with fail
  refine HV.out.mono ?_
  rintro e w2 ⟨rfl, hb⟩
  have D0 := Lib.hid (C0.out.step hb)
  have D1 := Lib.hid (C1.out.step hb)
  have DE := Lib.hid (CE.out.step' hb)
  clear hb CE HV C0 C1 a0 a1 a2 a3 a4
  obtain ⟨a0, a1, a2, a3, a4⟩ := VAt.of_blk D1.out
  simp only [Nat.zero_add] at a0 a1 a2 a3 a4
  have k0 := D0.out.cell 0
  have k1 := D0.out.cell 1
  simp at k0 k1
  obtain ⟨⟨K1, K2⟩, hKK⟩ : ∃ K, encR ks ha x = K := ⟨_, rfl⟩
  have hs := enc_same (ks := ks) (ha := ha) (x := x) HP.out.2.2
  rw [hKK] at hs
  have HEA := Lib.hid (senc_any ks ha A n cc x c w2 (HT.out.step DE.out) (HK.out.step DE.out) (HX.out.step DE.out) HP.out.1)
  rw [hKK] at HEA
  have HEB : Hid (∀ wr, Below w.heap.size w wr → Calls Tryz.prog 13 #[.agg #[.slice A n cc, .bool ha], c.val] wr fun e w' => e = .returned (.tuple #[.string K1, .int .i64 K2]) ∧ Below wr.heap.size wr w') := Lib.hid fun wr hb => by
    have := rsenc_any ks ha A n cc x c wr (HK.out.step hb) (HX.out.step hb) HP.out.1
    rw [hs] at this
    exact this
  clear hKK hs
  go_wp2_with fail
  refine HEA.out.mono ?_
  rintro e w3 ⟨rfl, hb⟩
  have E0 := Lib.hid (D0.out.step hb)
  have E1 := Lib.hid (D1.out.step hb)
  have EE := Lib.hid (DE.out.step' hb)
  clear hb HEA D0 D1 DE a0 a1 a2 a3 a4 k0 k1
  obtain ⟨a0, a1, a2, a3, a4⟩ := VAt.of_blk E1.out
  simp only [Nat.zero_add] at a0 a1 a2 a3 a4
  have k0 := E0.out.cell 0
  have k1 := E0.out.cell 1
  simp at k0 k1
  go_wp2_with fail
  refine (HEB.out w3 EE.out).mono ?_
  rintro e w4 ⟨rfl, hb⟩
  have F1 := Lib.hid (E1.out.step hb)
  have FE := Lib.hid (EE.out.step' hb)
  clear hb HEB E0 E1 EE a0 a1 a2 a3 a4 k0 k1
  obtain ⟨a0, a1, a2, a3, a4⟩ := VAt.of_blk F1.out
  simp only [Nat.zero_add] at a0 a1 a2 a3 a4
  go_upto_region 5 with fail
  have P0 : ∀ q : BW w4, q.val.cell? ⟨w.heap.size + 1, 0, none⟩ = some (.int .i64 c.k) := fun q => q.cell a0
  have P1 : ∀ q : BW w4, q.val.cell? ⟨w.heap.size + 1, 1, none⟩ = some (.int .i64 c.n) := fun q => q.cell a1
  have P2 : ∀ q : BW w4, q.val.cell? ⟨w.heap.size + 1, 2, none⟩ = some (.string c.t) := fun q => q.cell a2
  have P3 : ∀ q : BW w4, q.val.cell? ⟨w.heap.size + 1, 3, none⟩ = some (.slice c.LA c.ln c.lc) := fun q => q.cell a3
  have P4 : ∀ q : BW w4, q.val.cell? ⟨w.heap.size + 1, 4, none⟩ = some (.slice c.DA c.dn c.dc) := fun q => q.cell a4
  obtain ⟨hv, hhv⟩ : ∃ h, h = hashV x := ⟨_, rfl⟩
  have J1 : Hid (∀ q : BW w4, Calls Tryz.prog 14 #[c.val] q.val fun e w'' => e = .returned (.int .i64 hv) ∧ ∃ q : BW w4, w'' = q.val) := fun q =>
    Calls.bw (by rw [hhv]; exact hash_any x c q.val ((HT.out.step FE.out).step q.below) ((HX.out.step FE.out).step q.below))
  have J2 : Hid (∀ q : BW w4, Calls Tryz.prog 15 #[c.val] q.val fun e w'' => e = .returned (.int .i64 hv) ∧ ∃ q : BW w4, w'' = q.val) := fun q =>
    Calls.bw (by rw [hhv]; exact rhash_any x c q.val ((HX.out.step FE.out).step q.below))
  have J3 : Hid (∀ q : BW w4, Calls Tryz.prog 11 #[] q.val fun e w'' => e = .returned (.bool true) ∧ ∃ q : BW w4, w'' = q.val) := fun q =>
    Calls.bw (awake48_any q.val ((HT.out.step FE.out).step q.below))
  have e1 : (K1.toList == K1.toList) = true := by simp
  have e2 : (K2 == K2) = true := by simp
  have e3 : (hv == hv) = true := by simp
  clear a0 a1 a2 a3 a4 hhv F1
  refine wp_region_bw (by kernel_rfl) (by kernel_rfl) ?_
  repeat (go_big_quiet_step (first | (with_reducible exact J1.out _) | (with_reducible exact J2.out _) | (with_reducible exact J3.out _)))
  refine wpQuiet_nil ?_
  rintro _ ⟨kw, rfl⟩
  have ZE := Lib.hid (FE.out.step' kw.below)
  clear P0 P1 P2 P3 P4 J1 J2 J3
  generalize kw.val = w5 at *
  go_wp2_with fail
  go_ret
  exact ⟨rfl, ZE.out⟩

end Go.Proofs.YtblepmmibhphhaaGreatDoor


/- The law ShardkeyEncodes returns true for every input, and each argument reads behind the call as it read before; the tables of unicode/utf8 that it reads are tied to the program's text. Conditions: none beyond the card. The frame is printed by gen_card.py. -/
namespace Go.Proofs.YtblepmmibhphhaaGreatDoor.shardkeyEncodes
open Go Go.Shelf Go.ChangeShapes Go.WideShapes Go.ChangeAt Go.RowKit Go.Lib
set_option linter.unusedVariables false

theorem own : ownKnob Tryz.prog.godebug = none := by kernel_rfl
theorem laidOut : laidOutB Tryz.prog = true := by kernel_rfl
theorem accept_eq : Rows.laid_unicode_utf8_acceptRanges = Lib.acceptData := by kernel_rfl
theorem first_eq : Rows.laid_unicode_utf8_first = Lib.firstData := Go.Pinned.utf8First_eq
noncomputable def laidWorld (os : Os) : World :=
  let w0 := World.holding Tryz.prog os ⟨#[], #[], []⟩
  let put (h : Array Obj) (g : Nat) (cs : Array Value) : Array Obj := h.modify g fun
    | .cells _ t frozen => .cells cs t frozen
    | o => o
  let h1 := put w0.heap 0 (Lib.firstTab.map fun z => Value.int .u8 z).toArray
  let h2 := put h1 1 ((List.range 16).flatMap fun i => [Value.int .u8 (Lib.accLo i), Value.int .u8 (Lib.accHi i)]).toArray
  { w0 with heap := h2 }
theorem laid_met (os : Os) (args : Array Value) : laidMet Tryz.prog Rows.shardkeyEncodesRow.laid ((laidWorld os).forCall (fun _ _ => 0) ⟨#[], args, []⟩).memory :=
  (LaidIn.of_run (l := [("unicode/utf8.acceptRanges", Rows.laid_unicode_utf8_acceptRanges), ("unicode/utf8.first", Rows.laid_unicode_utf8_first)]) [1, 0] 8 (by kernel_rfl) (by kernel_rfl) (by kernel_rfl) (by kernel_rfl)).met

theorem witness_row (os : Os) {H : Type} (enc : TypeId × Value → H) :
    (OpenSpec.ofChange Rows.shardkeyEncodesSpec).preRow enc Tryz.prog Tryz.f3 Rows.shardkeyEncodesRow.domain false Rows.shardkeyEncodesRow.laid ((laidWorld os).forCall (fun _ _ => 0) ⟨#[], #[.agg #[.slice none 0 0, .bool false], .agg #[.int .i64 0, .int .i64 0, .string ⟨#[]⟩, .slice none 0 0, .slice none 0 0]], []⟩).memory #[.agg #[.slice none 0 0, .bool false], .agg #[.int .i64 0, .int .i64 0, .string ⟨#[]⟩, .slice none 0 0, .slice none 0 0]] := by
  have hw : (DataW.whole enc Tryz.prog ((laidWorld os).forCall (fun _ _ => 0) ⟨#[], #[.agg #[.slice none 0 0, .bool false], .agg #[.int .i64 0, .int .i64 0, .string ⟨#[]⟩, .slice none 0 0, .slice none 0 0]], []⟩).memory Tryz.f3.params.toList (OpenSpec.ofChange Rows.shardkeyEncodesSpec).vars false (#[.agg #[.slice none 0 0, .bool false], .agg #[.int .i64 0, .int .i64 0, .string ⟨#[]⟩, .slice none 0 0, .slice none 0 0]] : Array Value).toList 8).map (fun x => (x.1, x.2.1)) =
      some ([.agg [.nil, .lit (.bool false)], .agg [.lit (.int .i64 0), .lit (.int .i64 0), .lit (.string []), .nil, .nil]], []) := by kernel_rfl
  obtain ⟨⟨x1, x2, x3⟩, hx, hx1⟩ := Option.map_eq_some_iff.1 hw
  simp only [Prod.mk.injEq] at hx1
  obtain ⟨rfl, rfl⟩ := hx1
  exact OpenSpec.preRow_of_cond 8 hx (by kernel_rfl) (fun k hk => by cases hk) (by kernel_rfl) (laid_met os _)

set_option maxRecDepth 100000 in
set_option maxHeartbeats 2000000 in
theorem lifted (os : Os) (started : os.Started) (H : Type) (enc : TypeId × Value → H) (F0 : Stop.Interp) :
    ReturnsInHanded {} Tryz.checked os 3 .any ((OpenSpec.ofChange Rows.shardkeyEncodesSpec).preRow enc Tryz.prog Tryz.f3 Rows.shardkeyEncodesRow.domain false Rows.shardkeyEncodesRow.laid) (((OpenSpec.ofChange Rows.shardkeyEncodesSpec).at F0).post enc Tryz.prog Tryz.f3 false true false false) := by
  refine returnsInHanded_of_row (C := Tryz.checked) (s := OpenSpec.ofChange Rows.shardkeyEncodesSpec) own started (by kernel_rfl) Tryz.func3
    (witness_row_atRef (enc := enc) (C := Tryz.checked) false (laidWorld os) #[.agg #[.slice none 0 0, .bool false], .agg #[.int .i64 0, .int .i64 0, .string ⟨#[]⟩, .slice none 0 0, .slice none 0 0]] rfl (by kernel_rfl) (by kernel_rfl) (by kernel_rfl) (witness_row os enc)) ?_
  intro W base args ds gs before hval0 hW hq1 hq2 hwt hL hq5 hq6
  have hval : ∀ (j : Nat) t v, Tryz.f3.params[j]? = some t → args[j]? = some v → Value.okWide Tryz.prog W .any base t v := hval0
  have hW' := hW
  obtain ⟨p, q, hA0, hV, rfl, hfz, hnd⟩ := hW
  have hA : DataW.TrodAll enc Tryz.prog W 0 (fun _ => true) true Tryz.f3.params.toList args.toList ds p := hA0
  rw [Tryz.params3] at hA hval hwt
  obtain ⟨v0, vs0, d0, ds0, p0, q0, hargs, rfl, rfl, h0, r0⟩ := trodAll_cons hA
  obtain ⟨v1, vs1, d1, ds1, p1, q1, rfl, rfl, rfl, h1, r1⟩ := trodAll_cons r0
  obtain ⟨rfl, rfl, rfl⟩ := trodAll_nil r1
  obtain rfl : args = #[v0, v1] := by cases args; simp_all
  obtain ⟨rfl, rfl⟩ := trodVars_none hV
  obtain ⟨hlt0, hwt0⟩ := light_each hwt
  obtain ⟨hlt1, hwt1⟩ := light_each hwt0
  have trd0 := h0
  have lt0 : ∀ x ∈ p0, x.block < W.heap.size := by obtain ⟨m, hm⟩ := trd0; exact DataW.trod_lt m _ _ _ hm
  obtain ⟨A0, n0, k0, ha0, ks0, rfl, o0⟩ := open_key (hval 0 24 v0 rfl rfl) h0 hlt0
  have trd1 := h1
  have lt1 : ∀ x ∈ p1, x.block < W.heap.size := by obtain ⟨m, hm⟩ := trd1; exact DataW.trod_lt m _ _ _ hm
  obtain ⟨c1, t1, rfl, o1⟩ := open_value (hval 1 28 v1 rfl rfl) h1 hlt1
  clear hA0 hval0
  have htab : Tabs W := by
    have r1 := Lib.laidMet.reads hL (.tail _ (.head _))
    have r2 := Lib.laidMet.reads hL (.head _)
    rw [first_eq] at r1
    rw [accept_eq] at r2
    exact utf8Tabs_of_readsT (U8Types.of196 laysValid) ⟨by kernel_rfl, by kernel_rfl, by kernel_rfl, by kernel_rfl, by kernel_rfl, by kernel_rfl, by kernel_rfl⟩ r1 r2
  refine (shardkeyEncodes_walk ks0 ha0 A0 n0 k0 t1 c1 W htab o0 o1).mono fun e W' ⟨he, bel⟩ => ?_
  subst he
  exact ⟨_, rfl, _, _, _, [], _, [], hW', trodAll_mk1 (shut_bool Tryz.underlying4 _), (trodAll_cons_mk (Below.trod laidOut (by kernel_rfl) (of_decide_eq_true (by kernel_rfl)) trd0 bel lt0) (trodAll_cons_mk (Below.trod laidOut (by kernel_rfl) (of_decide_eq_true (by kernel_rfl)) trd1 bel lt1) trodAll_mk0)), rfl, bel.frame _, fun h => by cases h⟩

theorem over : Rows.ShardkeyEncodesSaid :=
  OpenClaim.holds_of_cond 3 Tryz.f3 rfl rfl rfl rfl rfl rfl rfl ⟨rfl, rfl, rfl, rfl, rfl⟩ rfl rfl rfl rfl rfl (by kernel_rfl) Tryz.func3 (by kernel_rfl)
    (of_decide_eq_true (by kernel_rfl)) (by unfold Func.isWrapper; first | (rw [if_pos (by decide +kernel)]; kernel_rfl) | (rw [if_neg (by decide +kernel)]; exact ⟨rfl, rfl⟩))
    (fun os started H enc _ F0 => by rw [OpenClaim.pre_eq_preRow]; exact lifted os started H enc F0)

theorem proved : Rows.ShardkeyEncodesCardSaid :=
  Claim7.holds_tied_plain_at .later [] [.data, .pinned] true (true, "d760985c22148e55cd1a8abc7402baa4a725f89cf5395fb4c61866adb12a1757") false
    over (fun _ h => by cases h) (by kernel_rfl) (fun _ h => by cases h) shardkeyEncodes_row_tie rfl ⟨rfl, rfl⟩ (by kernel_rfl) rfl
    (fun f fn hf hfn => by
      obtain rfl : f = 3 := Option.some.inj ((show Tryz.prog.funcNamed "docstore/docstorelaw48.ShardkeyEncodes" = some 3 by kernel_rfl).symm.trans hf) |>.symm
      obtain rfl : fn = Tryz.f3 := (Option.some.inj (Tryz.func3.symm.trans hfn)).symm
      exact ⟨by kernel_rfl, fun j t ht => by
        rw [Tryz.params3] at ht
        have h3 : t = 24 ∨ t = 28 := by
          rcases j with _ | j
          · exact .inl (by simpa using ht.symm)
          rcases j with _ | j
          · exact .inr (by simpa using ht.symm)
          · simp at ht
        rcases h3 with rfl | rfl
        · exact (show Tryz.prog.wantsStandIn 24 = false by kernel_rfl)
        · exact (show Tryz.prog.wantsStandIn 28 = false by kernel_rfl)⟩)
    (by kernel_rfl)
#print axioms proved
end Go.Proofs.YtblepmmibhphhaaGreatDoor.shardkeyEncodes

