/- Parts of the proof, joined: BoOfD, BoOf, RgRan, PrShape, PrExpr, PrUnused, PrCount, PrCheck. -/
import Derived.Test.YtfkapannahcjiaaGreatDoorAp26
import Derived.Test.YtfkapannahcjiaaGreatDoorAp27
import Derived.Test.YtfkapannahcjiaaGreatDoorAp20
import Derived.Test.YtfkapannahcjiaaGreatDoorAp24
import Derived.Test.YtfkapannahcjiaaGreatDoorAp23
import Derived.Test.YtfkapannahcjiaaGreatDoorAp5
import Derived.Test.YtfkapannahcjiaaGreatDoorAp13
import Derived.Test.YtfkapannahcjiaaGreatDoorAp12
/- bounds.Of at a comparison. Printed by gen_boofd.py. -/
namespace Go.Proofs.YtfkapannahcjiaaGreatDoor
open Go.RowKit
set_option linter.unusedSimpArgs false

theorem load_ivAt {w : World} {g : Nat} {cs : Array Value} (h : Blk w g 67 cs) (hz : cs.size = 12) : (Instr.loadAt 67 (.pointer (some ⟨g, 0, none⟩))).run Tryz.prog w = .ok (.agg cs) w := by
  simp only [Instr.loadAt, Instr.sureAddr, Sem.run_bind, Sem.run_pure, Result.andThen_ok, load_iv h hz]
set_option maxRecDepth 100000 in
set_option maxHeartbeats 8000000 in
theorem of_cmp (p : PrT) (ho : p.op = 4 ∨ p.op = 5 ∨ p.op = 6 ∨ p.op = 7) (hv : validV p.arg.2 = true) (A : Option Addr) (n c : Nat) (l : List ByteArray) (w : World) (hw : WP w p) (hT : Tabs w) (hl : ST w A n c l) (hp : p.path.xs = l) :
    Calls Tryz.prog 22 #[aggPr p, .slice A n c] w (OfOk (leafS p.op p.arg.2 (p.args.xs.map Prod.snd) p.n) p.sz w) := by
  have HE : Hid (∀ wr, Below w.heap.size w wr → Calls Tryz.prog 57 #[.slice p.path.A p.path.n p.path.c, .slice A n c] wr fun e w' => e = .returned (.bool (sameP p.path.xs l)) ∧ Below wr.heap.size wr w') := Lib.hid fun wr hb => equal_any p.path.xs l p.path.A A p.path.n p.path.c n c wr (hw.open.path.step hb) (hl.step hb)
  rw [sameP_iff.2 hp] at HE
  have HT := Lib.hid hT
  have HSZ : Hid (1 ≤ p.sz) := by rw [Hid, p.sz_eq]; omega
  have HX := Lib.hid hw.open.arg
  have HK : Hid (p.arg.1.k = p.arg.2.k) := Lib.hid hw.open.arg.open.k
  have HN : Hid (1 ≤ p.arg.1.k ∧ p.arg.1.k ≤ 11) := by rw [HK.out]; exact Lib.hid (kind_range hv)
  have HO := Lib.hid ho
  clear hw hT hl hp hv
  have B0 : Hid (Blk (w.alloc (Obj.cells (arrPr p) 38)) w.heap.size 38 (arrPr p)) := Blk.new_at rfl
  have BE := Lib.hid ((Below.refl w.heap.size w).alloc (Nat.le_refl _) (Obj.cells (arrPr p) 38))
  go_enter Tryz.func22, Tryz.ntmps22
  go_upto_region 1 with fail
  change Code.wp _ _ _ _ (w.alloc (Obj.cells (arrPr p) 38))
  generalize w.alloc (Obj.cells (arrPr p) 38) = wa at *
  obtain ⟨d0, d1, _, _, _, _, _, _⟩ := pr_cells B0.out
  obtain ⟨op, hop⟩ : ∃ op, op = p.op := ⟨_, rfl⟩
  rw [← hop] at d0 ho
  have HOP := Lib.hid hop
  clear hop
  rcases ho with rfl | rfl | rfl | rfl
  all_goals
    go_wp2_with fail
    refine (HE.out _ BE.out).mono ?_
    rintro e w1 ⟨rfl, hb⟩
    replace BE := Lib.hid (BE.out.step' hb)
    replace B0 := Lib.hid (B0.out.step hb)
    clear hb d0 d1 HE
    obtain ⟨d0, _, _, _, _, _, _, _⟩ := pr_cells B0.out
    rw [← HOP.out] at d0
    have f2 := (range_parg B0.out) 0 _ rfl
    simp only [Nat.reduceAdd] at f2
    by_cases h6 : p.arg.1.k = 6
    · have HL : Hid (leafS p.op p.arg.2 (p.args.xs.map Prod.snd) p.n = (allS, false)) := Lib.hid (leafS_none (leafI_cmp6 HO.out (by rw [← HK.out]; exact h6)))
      have K6 : Hid (Calls Tryz.prog 60 #[.int .i64 p.arg.1.k] w1 fun e w' => e = .returned (.tuple #[aggI zI, .bool false]) ∧ Below w1.heap.size w1 w') := by rw [h6]; exact Lib.hid (kindRange6 w1)
      clear h6
      go_wp2_with fail
      refine K6.out.mono ?_
      rintro e w2 ⟨rfl, hb⟩
      replace BE := Lib.hid (BE.out.step' hb)
      clear hb B0 d0 f2
      go_upto_region 17 with fail
      change Code.wp _ _ _ _ (w2.alloc (Obj.cells (arrI zI) 67))
      replace BE := Lib.hid (BE.out.alloc BE.out.size (Obj.cells (arrI zI) 67))
      generalize w2.alloc (Obj.cells (arrI zI) 67) = w3 at *
      go_wp2_with fail
      refine (allF_any _).mono ?_
      rintro e w4 ⟨A3, m3, c3, ys, nf, rfl, hy, hnf, hmk, hsi, hb3, hfr⟩
      have HNO := Lib.hid (show OfOk (allS, false) 1 w3 (.returned (.tuple #[.slice A3 m3 c3, .bool false])) w4 from ⟨A3, m3, c3, ys, nf, rfl, hy, hnf, hmk, hsi, hb3, hfr⟩)
      clear hy hnf hmk hsi hb3 hfr
      go_wp2_with fail
      go_ret2
      rw [HL.out]
      exact HNO.out.up BE.out HSZ.out
    · have KR := Lib.hid (kindRange_any p.arg.1.k w1 HN.out h6)
      have HQI : Hid (ivP (rngP p.arg.1.k) = rangeI p.arg.2.k) := by rw [Hid, rngP_iv HN.out h6, HK.out]
      have HQO : Hid (∀ wq : World, okI wq (rngP p.arg.1.k)) := Lib.hid fun wq => rngP_ok _ wq
      have HL : Hid (leafS p.op p.arg.2 (p.args.xs.map Prod.snd) p.n = ((fun a => inS cmC a (spansL ([limP p.op (rngP p.arg.1.k) p.arg].map ivP))), decide (p.arg.2.k ≠ 2))) := by
        rw [Hid, leafS_some (leafI_cmp HO.out (by rw [← HK.out]; exact h6)), List.map_singleton]
        rw [show ivP (limP p.op (rngP p.arg.1.k) p.arg) = limI p.op p.arg.2 from limP_iv (x := p.arg.2) (c := p.arg.1) HQI.out]
      clear h6
      obtain ⟨b2, hb2⟩ : ∃ b, b = decide (p.arg.2.k ≠ 2) := ⟨_, rfl⟩
      rw [← hb2] at HL
      have k2 : (p.arg.1.k != 2) = b2 := by rw [hb2, HK.out, Bool.eq_iff_iff]; simp
      clear hb2
      go_wp2_with fail
      refine KR.out.mono ?_
      obtain ⟨q, hq⟩ : ∃ q, q = rngP p.arg.1.k := ⟨_, rfl⟩
      rw [← hq] at HL HQO
      rintro e w2 ⟨rfl, hb⟩
      rw [← hq]
      clear hq KR HQI
      have HQ : Hid (∀ wq : World, Below w.heap.size w wq → okI wq (limP p.op q p.arg)) := Lib.hid fun wq hb => by
        unfold limP
        split
        · exact ⟨HX.out.step hb, (HQO.out wq).2⟩
        · exact ⟨(HQO.out wq).1, HX.out.step hb⟩
      replace BE := Lib.hid (BE.out.step' hb)
      replace B0 := Lib.hid (B0.out.step hb)
      clear hb d0 f2
      go_upto_region 17 with fail
      change Code.wp _ _ _ _ (w2.alloc (Obj.cells (arrI q) 67))
      have J : Hid (Blk (w2.alloc (Obj.cells (arrI q) 67)) w2.heap.size 67 (arrI q)) := Blk.new_at rfl
      replace BE := Lib.hid (BE.out.alloc BE.out.size (Obj.cells (arrI q) 67))
      replace B0 := Lib.hid (B0.out.alloc (Obj.cells (arrI q) 67))
      generalize w2.alloc (Obj.cells (arrI q) 67) = w3 at *
      generalize w2.heap.size = gj at *
      have f2 := (range_parg B0.out) 0 _ rfl
      simp only [Nat.reduceAdd] at f2
      go_upto_region 18 with fail
      have B := Lib.hid ((Below.refl w3.heap.size w3).drew)
      have KS : Hid (∀ w', Below w3.heap.size w3 w' → (fun w' => (Instr.loadAt 67 (.pointer (some ⟨gj, 0, none⟩))).run Tryz.prog w' = .ok (aggI q) w' ∧ (Instr.loadAt 38 (.pointer (some ⟨w.heap.size, 0, none⟩))).run Tryz.prog w' = .ok (aggPr p) w' ∧ w'.cell? ⟨w.heap.size, 2, none⟩ = some (.int .i64 p.arg.1.k)) w') := Lib.hid fun w' hb => ⟨load_ivAt (J.out.step hb) rfl, load_pred (arrPr p) rfl _ _ (B0.out.step hb), (hb.cell (p := ⟨w.heap.size, 2, none⟩) B0.out.lt).trans f2⟩
      clear f2
      refine wp_region_noPanic ?_
      refine wp_region_held_drew (S := (fun w' => (Instr.loadAt 67 (.pointer (some ⟨gj, 0, none⟩))).run Tryz.prog w' = .ok (aggI q) w' ∧ (Instr.loadAt 38 (.pointer (some ⟨w.heap.size, 0, none⟩))).run Tryz.prog w' = .ok (aggPr p) w' ∧ w'.cell? ⟨w.heap.size, 2, none⟩ = some (.int .i64 p.arg.1.k))) (by kernel_rfl) ?_ (fun hHeld => ?_)
      · (try dsimp only); exact KS.out _ B.out
      refine wpAnyH_take (i := 0) (v := aggI q) (take_at rfl) (by kernel_rfl) (by kernel_rfl) (by kernel_rfl) (fun _ _ _ h => h) (Or.inl ⟨by rfl, ?_⟩) (by assumption) ?_
      (skip)
      · intro w' hSw; exact exec_load (p := .pointer (some ⟨gj, 0, none⟩)) rfl rfl hSw.1
      (try simp only [Act.put, List.setIfInBounds_toArray, List.set_cons_zero, List.set_cons_succ])
      refine wpAnyH_take (i := 1) (v := aggPr p) (take_at rfl) (by kernel_rfl) (by kernel_rfl) (by kernel_rfl) (fun _ _ _ h => h) (Or.inl ⟨by rfl, ?_⟩) (by assumption) ?_
      (skip)
      · intro w' hSw; exact exec_load (p := .pointer (some ⟨w.heap.size, 0, none⟩)) rfl rfl hSw.2.1
      (try simp only [Act.put, List.setIfInBounds_toArray, List.set_cons_zero, List.set_cons_succ])
      refine wpAnyH_take (i := 5) (v := ?_) (take_at rfl) (by kernel_rfl) (by kernel_rfl) (by kernel_rfl) (fun _ _ _ h => h) (Or.inl ⟨by rfl, ?_⟩) (by assumption) ?_
      rotate_left
      · intro w' hSw; (try dsimp only at hSw); obtain ⟨_, _, hSw2⟩ := hSw; go_simp; (try with_reducible rfl)
      (try simp only [Act.put, List.setIfInBounds_toArray, List.set_cons_zero, List.set_cons_succ])
      refine wpAnyH_take (i := 6) (v := ?_) (take_at rfl) (by kernel_rfl) (by kernel_rfl) (by kernel_rfl) (fun _ _ _ h => h) (Or.inl ⟨by rfl, ?_⟩) (by assumption) ?_
      rotate_left
      · intro w' hSw; (try dsimp only at hSw); obtain ⟨_, _, hSw2⟩ := hSw; go_simp; (try with_reducible rfl)
      (try simp only [Act.put, List.setIfInBounds_toArray, List.set_cons_zero, List.set_cons_succ])
      refine wpAnyH_take (i := 7) (v := ?_) (take_at rfl) (by kernel_rfl) (by kernel_rfl) (by kernel_rfl) (fun _ _ _ h => h) (Or.inl ⟨by rfl, ?_⟩) (by assumption) ?_
      rotate_left
      · intro w' hSw; (try dsimp only at hSw); obtain ⟨_, _, hSw2⟩ := hSw; go_simp; (try with_reducible rfl)
      (try simp only [Act.put, List.setIfInBounds_toArray, List.set_cons_zero, List.set_cons_succ])
      refine wpAnyH_take (i := 8) (v := ?_) (take_at rfl) (by kernel_rfl) (by kernel_rfl) (by kernel_rfl) (fun _ _ _ h => h) (Or.inl ⟨by rfl, ?_⟩) (by assumption) ?_
      rotate_left
      · intro w' hSw; (try dsimp only at hSw); obtain ⟨_, _, hSw2⟩ := hSw; go_simp; (try with_reducible rfl)
      (try simp only [Act.put, List.setIfInBounds_toArray, List.set_cons_zero, List.set_cons_succ])
      refine wpAnyH_ready (rs := [2]) (by kernel_rfl) (by simp) ?_
      refine AllReadyH.cons (take_at rfl) (fun K hK => ?_) AllReadyH.nil
      go_simp
      refine ((limited_any q p _ HO.out)).mono ?_
      rintro e4 w4 ⟨rfl, hb⟩
      replace B := Lib.hid (B.out.step' hb)
      clear hb
      (try go_wp2_with fail)
      refine hK.out _ _ ?_ (fun hHeld2 => ?_)
      · (try dsimp only); exact KS.out _ B.out
      clear hK K hHeld
      have hHeld := hHeld2
      clear hHeld2
      (try simp only [Act.put, List.setIfInBounds_toArray, List.set_cons_zero, List.set_cons_succ])
      refine wpAnyH_ready (rs := [3]) (by kernel_rfl) (by simp) ?_
      refine AllReadyH.cons (take_at rfl) (fun K hK => ?_) AllReadyH.nil
      go_simp
      refine hK.out _ _ ?_ (fun hHeld2 => ?_)
      · (try dsimp only); exact KS.out _ (B.out.alloc B.out.size _)
      clear hK K hHeld
      have hHeld := hHeld2
      clear hHeld2
      (try simp only [Act.put, List.setIfInBounds_toArray, List.set_cons_zero, List.set_cons_succ])
      refine wpAnyH_ready (rs := [4]) (by kernel_rfl) (by simp) ?_
      refine AllReadyH.cons (take_at rfl) (fun K hK => ?_) AllReadyH.nil
      go_simp
      refine (normalF_any [limP p.op q p.arg] _ 1 1 _ (HT.out.step (BE.out.step' (B.out.alloc B.out.size _))) (si_one (Blk.new_at rfl) (HQ.out _ (BE.out.step' (B.out.alloc B.out.size _)))) (by omega)).mono ?_
      rintro e3 w5 ⟨A3, m3, c3, ys, nf, rfl, hy, hnf, hmk, hsi, hb3, hfr⟩
      have HNO := Lib.hid (show OfOk ((fun a => inS cmC a (spansL ([limP p.op q p.arg].map ivP))), b2) 1 _ (.returned (.tuple #[.slice A3 m3 c3, .bool b2])) w5 from ⟨A3, m3, c3, ys, nf, rfl, hy, hnf, hmk, hsi, hb3, hfr⟩)
      replace HNO := Lib.hid (HNO.out.up (B.out.alloc B.out.size _) (Nat.le_refl _))
      replace B := Lib.hid ((B.out.alloc B.out.size _).step' hb3)
      clear hy hnf hmk hsi hb3 hfr
      (try go_wp2_with fail)
      refine hK.out _ _ ?_ (fun hHeld2 => ?_)
      · (try dsimp only); exact KS.out _ B.out
      clear hK K hHeld
      have hHeld := hHeld2
      clear hHeld2
      (try simp only [Act.put, List.setIfInBounds_toArray, List.set_cons_zero, List.set_cons_succ])
      refine wpAnyH_take (i := 9) (v := ?_) (take_at rfl) (by kernel_rfl) (by kernel_rfl) (by kernel_rfl) (fun _ _ _ h => h) (Or.inl ⟨by rfl, ?_⟩) (by assumption) ?_
      rotate_left
      · intro w' hSw; (try dsimp only at hSw); obtain ⟨_, _, hSw2⟩ := hSw; go_simp; (try with_reducible rfl)
      (try simp only [Act.put, List.setIfInBounds_toArray, List.set_cons_zero, List.set_cons_succ])
      refine wpAnyH_take (i := 10) (v := ?_) (take_at rfl) (by kernel_rfl) (by kernel_rfl) (by kernel_rfl) (fun _ _ _ h => h) (Or.inl ⟨by rfl, ?_⟩) (by assumption) ?_
      rotate_left
      · intro w' hSw; (try dsimp only at hSw); obtain ⟨_, _, hSw2⟩ := hSw; go_simp; (try with_reducible rfl)
      (try simp only [Act.put, List.setIfInBounds_toArray, List.set_cons_zero, List.set_cons_succ])
      refine wpAnyH_done (by kernel_rfl) ?_ _
      refine NoPanic.normal ?_
      clear hHeld
      go_wp2_with fail
      go_ret2
      rw [HL.out]
      exact HNO.out.up BE.out HSZ.out
end Go.Proofs.YtfkapannahcjiaaGreatDoor



/- bounds.Of at every predicate. -/
namespace Go.Proofs.YtfkapannahcjiaaGreatDoor
open Go.RowKit
set_option linter.unusedSimpArgs false

/-- bounds.Of answers as the sets of cuts say, at every predicate that is in order -/
theorem of_any : ∀ p, OfAt p := by
  refine PrT.ind fun p ih => ?_
  by_cases h20 : p.op = 20
  · exact of_and p ih h20
  by_cases h21 : p.op = 21
  · exact of_or p ih h21
  intro A n c l w hw hv hT hl hz
  by_cases hp : p.path.xs = l
  · rw [ofS_leaf h20 h21 hp]
    by_cases h2 : p.op = 2
    · rw [h2]
      exact of_eqv p h2 A n c l w hw hT hl hp
    by_cases ho : p.op = 4 ∨ p.op = 5 ∨ p.op = 6 ∨ p.op = 7
    · exact of_cmp p ho (hv.open.arg (by omega)) A n c l w hw hT hl hp
    by_cases h8 : p.op = 8
    · rw [h8]
      exact of_in p h8 A n c l w hw hl hp _ fun wr hb => (ofIn_any p wr (hw.step hb) (hT.step hb)).mono fun e w' h => h.up (Below.refl _ _) (by rw [p.sz_eq]; omega)
    by_cases h16 : p.op = 16
    · rw [h16]
      exact of_pre p h16 A n c l w hw hl hp _ fun wr hb => (ofPrefix_any p wr (hw.step hb) (hT.step hb)).mono fun e w' h => h.up (Below.refl _ _) (by rw [p.sz_eq]; omega)
    by_cases h11 : p.op = 11
    · rw [h11]
      exact of_kind p h11 (hv.open.kind h11) A n c l w hw hT hl hp
    rw [leafS_none (leafI_other (by omega))]
    exact of_other p (by omega) A n c l w hw hl hp
  · rw [ofS_else h20 h21 hp]
    exact of_else p h20 h21 A n c l w hw hl hp
end Go.Proofs.YtfkapannahcjiaaGreatDoor



/- shardkey.Ranges, given bounds.Of. -/
namespace Go.Proofs.YtfkapannahcjiaaGreatDoor
open Go.RowKit
set_option linter.unusedSimpArgs false

theorem sr_oneB {w : World} {g : Nat} {t : TypeId} {q : B2} (h : Blk w g t #[.string q.1, .string q.2]) : SR 2 recB2 w (some ⟨g, 0, none⟩) 1 1 [q] := by
  refine ⟨rfl, Nat.le_refl _, fun _ => ⟨g, 0, rfl, h.lt, fun i a hi j v hj => ?_⟩⟩
  match i, hi with
  | 0, hi =>
    obtain rfl : a = q := by simpa using hi.symm
    match j, hj with
    | 0, hj =>
      obtain rfl : v = .string a.1 := by simpa [recB2] using hj.symm
      exact h.cell 0
    | 1, hj =>
      obtain rfl : v = .string a.2 := by simpa [recB2] using hj.symm
      exact h.cell 1
    | j + 2, hj => simp [recB2] at hj
  | i + 1, hi => simp at hi
/-- what Ranges hands back -/
def RangesOk (ha : Bool) (S : Cut → Prop) (w : World) (e : Ending) (w' : World) : Prop :=
  ∃ A m c nf L, e = .returned (.slice A m c) ∧ IsNF S nf ∧ RanOk ha nf L ∧ SR 2 recB2 w' A m c L ∧ m ≤ 1000000000 ∧ Below w.heap.size w w'
set_option maxRecDepth 100000 in
set_option maxHeartbeats 4000000 in
theorem ranges_any (p : PrT) (ha : Bool) (l : List ByteArray) (o : OC) (kb ko kn kc : Nat) (w : World) (hT : Tabs w) (hk0 : 0 < kn) (hko : w.cell? ⟨kb, ko, none⟩ = some (.slice o.A o.n o.c)) (hl : ST w o.A o.n o.c l) (hw : WP w p) (hv : VPr p) (hz : p.sz ≤ 300000000) (hG : GoodS (ofS l p).1) :
    Calls Tryz.prog 9 #[.agg #[.slice (some ⟨kb, ko, none⟩) kn kc, .bool ha], aggPr p] w (RangesOk ha (ofS l p).1 w) := by
  obtain ⟨j0, hj0, hy0, hy1, hy2⟩ := info_parts info_pair
  have HT := Lib.hid hT
  have HGO := Lib.hid hG
  have HZ := Lib.hid hz
  have HO : Hid (∀ wr, Below w.heap.size w wr → Calls Tryz.prog 22 #[aggPr p, .slice o.A o.n o.c] wr (OfOk (ofS l p) p.sz wr)) := Lib.hid fun wr hb => of_any p _ _ _ l wr (hw.step hb) hv (hT.step hb) (hl.step hb) hz
  have hbw := World.block_lt_of_cell? w _ hko
  have hbw : kb < w.heap.size := hbw
  have n0b : ((kn : Int) == 0) = false := by simp; omega
  have i1' : (0 : Int) < (kn : Int) := by omega
  have B0 : Hid (Blk ((w.alloc (Obj.cells #[.slice (some ⟨kb, ko, none⟩) kn kc, .bool ha] 24)).alloc (Obj.cells (arrPr p) 38)) w.heap.size 24 #[.slice (some ⟨kb, ko, none⟩) kn kc, .bool ha]) := (Blk.new_at rfl).alloc _
  have B1 : Hid (Blk ((w.alloc (Obj.cells #[.slice (some ⟨kb, ko, none⟩) kn kc, .bool ha] 24)).alloc (Obj.cells (arrPr p) 38)) (w.heap.size + 1) 38 (arrPr p)) := Blk.new_at (by simp)
  have BE : Hid (Below w.heap.size w ((w.alloc (Obj.cells #[.slice (some ⟨kb, ko, none⟩) kn kc, .bool ha] 24)).alloc (Obj.cells (arrPr p) 38))) := ((Below.refl _ _).alloc (Nat.le_refl _) _).alloc (by simp) _
  clear hT hl hw hv hz hG
  go_enter Tryz.func9, Tryz.ntmps9
  go_upto_region 1 with fail
  change Code.wp _ _ _ _ ((w.alloc (Obj.cells #[.slice (some ⟨kb, ko, none⟩) kn kc, .bool ha] 24)).alloc (Obj.cells (arrPr p) 38))
  generalize ((w.alloc (Obj.cells #[.slice (some ⟨kb, ko, none⟩) kn kc, .bool ha] 24)).alloc (Obj.cells (arrPr p) 38)) = wa at *
  have k0 := B0.out.cell 0
  have k1 := B0.out.cell 1
  simp at k0 k1
  go_upto_region 3 with fail
  have eko := (BE.out.cell (p := ⟨kb, ko, none⟩) hbw).trans hko
  have lbk : kb < wa.heap.size := Nat.lt_of_lt_of_le hbw BE.out.size
  have B := Lib.hid ((Below.refl wa.heap.size wa).drewN 1)
  have KS : Hid (∀ w', Below wa.heap.size wa w' → (Instr.loadAt 38 (.pointer (some ⟨w.heap.size + 1, 0, none⟩))).run Tryz.prog w' = .ok (aggPr p) w' ∧ w'.cell? ⟨w.heap.size, 0, none⟩ = some (.slice (some ⟨kb, ko, none⟩) kn kc) ∧ w'.cell? ⟨kb, ko, none⟩ = some (.slice o.A o.n o.c)) := Lib.hid fun w' hb => ⟨load_pred (arrPr p) rfl _ _ (B1.out.step hb), (hb.cell (p := ⟨w.heap.size, 0, none⟩) B0.out.lt).trans k0, (hb.cell (p := ⟨kb, ko, none⟩) lbk).trans eko⟩
  clear k0 k1 eko
  go_cut [5] (fun v5 wx => ∃ (A3 : Option Addr) (m3 c3 : Nat) (ys : List PI) (nf : List (Cut × Cut)), v5 = .slice A3 m3 c3 ∧ ys.map ivP = nf.map ivOf ∧ IsNF (ofS l p).1 nf ∧ m3 ≤ p.sz ∧ SI wx A3 m3 c3 ys ∧ Below wa.heap.size wa wx)
  case first =>
    refine wp_region_noPanic ?_
    refine wp_region_held_drew (S := (fun w' => (Instr.loadAt 38 (.pointer (some ⟨w.heap.size + 1, 0, none⟩))).run Tryz.prog w' = .ok (aggPr p) w' ∧ w'.cell? ⟨w.heap.size, 0, none⟩ = some (.slice (some ⟨kb, ko, none⟩) kn kc) ∧ w'.cell? ⟨kb, ko, none⟩ = some (.slice o.A o.n o.c))) (by kernel_rfl) ?_ (fun hHeld => ?_)
    · (try dsimp only); exact KS.out _ B.out
    refine wpAnyH_take (i := 0) (v := aggPr p) (take_at rfl) (by kernel_rfl) (by kernel_rfl) (by kernel_rfl) (fun _ _ _ h => h) (Or.inl ⟨by rfl, ?_⟩) (by assumption) ?_
    (skip)
    · intro w' hSw; exact exec_load (p := .pointer (some ⟨w.heap.size + 1, 0, none⟩)) rfl rfl hSw.1
    (try simp only [Act.put, List.setIfInBounds_toArray, List.set_cons_zero, List.set_cons_succ])
    refine wpAnyH_take (i := 1) (v := ?_) (take_at rfl) (by kernel_rfl) (by kernel_rfl) (by kernel_rfl) (fun _ _ _ h => h) (Or.inl ⟨by rfl, ?_⟩) (by assumption) ?_
    rotate_left
    · intro w' hSw; (try dsimp only at hSw); obtain ⟨_, hSw1, hSw2⟩ := hSw; go_simp; (try with_reducible rfl)
    (try simp only [Act.put, List.setIfInBounds_toArray, List.set_cons_zero, List.set_cons_succ])
    refine wpAnyH_take (i := 2) (v := ?_) (take_at rfl) (by kernel_rfl) (by kernel_rfl) (by kernel_rfl) (fun _ _ _ h => h) (Or.inl ⟨by rfl, ?_⟩) (by assumption) ?_
    rotate_left
    · intro w' hSw; (try dsimp only at hSw); obtain ⟨_, hSw1, hSw2⟩ := hSw; go_simp; (try with_reducible rfl)
    (try simp only [Act.put, List.setIfInBounds_toArray, List.set_cons_zero, List.set_cons_succ])
    refine wpAnyH_take (i := 3) (v := ?_) (take_at rfl) (by kernel_rfl) (by kernel_rfl) (by kernel_rfl) (fun _ _ _ h => h) (Or.inl ⟨by rfl, ?_⟩) (by assumption) ?_
    rotate_left
    · intro w' hSw; (try dsimp only at hSw); obtain ⟨_, hSw1, hSw2⟩ := hSw; go_simp; (try with_reducible rfl)
    (try simp only [Act.put, List.setIfInBounds_toArray, List.set_cons_zero, List.set_cons_succ])
    refine wpAnyH_take (i := 4) (v := ?_) (take_at rfl) (by kernel_rfl) (by kernel_rfl) (by kernel_rfl) (fun _ _ _ h => h) (Or.inl ⟨by rfl, ?_⟩) (by assumption) ?_
    rotate_left
    · intro w' hSw; (try dsimp only at hSw); obtain ⟨_, hSw1, hSw2⟩ := hSw; go_simp; (try with_reducible rfl)
    (try simp only [Act.put, List.setIfInBounds_toArray, List.set_cons_zero, List.set_cons_succ])
    refine wpAnyH_take (i := 5) (v := ?_) (take_at rfl) (by kernel_rfl) (by kernel_rfl) (by kernel_rfl) (fun _ _ _ h => h) (Or.inl ⟨by rfl, ?_⟩) (by assumption) ?_
    rotate_left
    · intro w' hSw; (try dsimp only at hSw); obtain ⟨_, hSw1, hSw2⟩ := hSw; go_simp; (try with_reducible rfl)
    (try simp only [Act.put, List.setIfInBounds_toArray, List.set_cons_zero, List.set_cons_succ])
    refine wpAnyH_ready (rs := [6]) (by kernel_rfl) (by simp) ?_
    refine AllReadyH.cons (take_at rfl) (fun K hK => ?_) AllReadyH.nil
    go_simp
    refine (HO.out _ (BE.out.step' B.out)).mono ?_
    rintro e3 w3 ⟨A3, m3, c3, ys, nf, rfl, hy, hnf, hmk, hsi, hb3, hfr⟩
    replace B := Lib.hid (B.out.step' hb3)
    have HS3 := Lib.hid hsi
    have HY3 := Lib.hid hy
    have HN3 := Lib.hid hnf
    have HM3 := Lib.hid hmk
    clear hb3 hsi hy hnf hmk hfr
    (try go_wp2_with fail)
    refine hK.out _ _ ?_ (fun hHeld2 => ?_)
    · (try dsimp only); exact KS.out _ B.out
    clear hK K hHeld
    have hHeld := hHeld2
    clear hHeld2
    (try simp only [Act.put, List.setIfInBounds_toArray, List.set_cons_zero, List.set_cons_succ])
    refine wpAnyH_take (i := 7) (v := ?_) (take_at rfl) (by kernel_rfl) (by kernel_rfl) (by kernel_rfl) (fun _ _ _ h => h) (Or.inl ⟨by rfl, ?_⟩) (by assumption) ?_
    rotate_left
    · intro w' hSw; (try dsimp only at hSw); obtain ⟨_, hSw1, hSw2⟩ := hSw; go_simp; (try with_reducible rfl)
    (try simp only [Act.put, List.setIfInBounds_toArray, List.set_cons_zero, List.set_cons_succ])
    refine wpAnyH_take (i := 8) (v := ?_) (take_at rfl) (by kernel_rfl) (by kernel_rfl) (by kernel_rfl) (fun _ _ _ h => h) (Or.inl ⟨by rfl, ?_⟩) (by assumption) ?_
    rotate_left
    · intro w' hSw; (try dsimp only at hSw); obtain ⟨_, hSw1, hSw2⟩ := hSw; go_simp; (try with_reducible rfl)
    (try simp only [Act.put, List.setIfInBounds_toArray, List.set_cons_zero, List.set_cons_succ])
    refine wpAnyH_take (i := 9) (v := ?_) (take_at rfl) (by kernel_rfl) (by kernel_rfl) (by kernel_rfl) (fun _ _ _ h => h) (Or.inl ⟨by rfl, ?_⟩) (by assumption) ?_
    rotate_left
    · intro w' hSw; (try dsimp only at hSw); obtain ⟨_, hSw1, hSw2⟩ := hSw; go_simp; (try with_reducible rfl)
    (try simp only [Act.put, List.setIfInBounds_toArray, List.set_cons_zero, List.set_cons_succ])
    refine wpAnyH_take (i := 10) (v := ?_) (take_at rfl) (by kernel_rfl) (by kernel_rfl) (by kernel_rfl) (fun _ _ _ h => h) (Or.inl ⟨by rfl, ?_⟩) (by assumption) ?_
    rotate_left
    · intro w' hSw; (try dsimp only at hSw); obtain ⟨_, hSw1, hSw2⟩ := hSw; go_simp; (try with_reducible rfl)
    (try simp only [Act.put, List.setIfInBounds_toArray, List.set_cons_zero, List.set_cons_succ])
    refine wpAnyH_take (i := 11) (v := ?_) (take_at rfl) (by kernel_rfl) (by kernel_rfl) (by kernel_rfl) (fun _ _ _ h => h) (Or.inl ⟨by rfl, ?_⟩) (by assumption) ?_
    rotate_left
    · intro w' hSw; (try dsimp only at hSw); obtain ⟨_, hSw1, hSw2⟩ := hSw; go_simp; (try with_reducible rfl)
    (try simp only [Act.put, List.setIfInBounds_toArray, List.set_cons_zero, List.set_cons_succ])
    refine wpAnyH_done (by kernel_rfl) ?_ _
    refine NoPanic.normal ?_
    all_goals
      go_wp2_with fail
      go_meet
      exact ⟨A3, m3, c3, ys, nf, rfl, HY3.out, HN3.out, HM3.out, HS3.out, B.out⟩
  case rest =>
    obtain ⟨A3, m3, c3, ys, nf, rfl, hy3, hn3, hm3, hs3, hb3'⟩ := hcut
    have HS3 := Lib.hid hs3
    have HY3 := Lib.hid hy3
    have HN3 := Lib.hid hn3
    have HM3 := Lib.hid hm3
    have C0 := Lib.hid (B0.out.step hb3')
    have CE := Lib.hid (BE.out.step' hb3')
    clear KS B B0 B1 BE HO lbk hs3 hy3 hn3 hm3 hb3'
    generalize wc = w3 at *
    go_upto_region 6 with fail
    cases ha
    · go_loopw [7, 9, 10, 11, 30] (fun u7 _ _ _ u30 wr => ∃ i : Nat, i ≤ m3 ∧ u30 = .int .i64 i ∧ Blk wr w.heap.size 24 #[.slice (some ⟨kb, ko, none⟩) kn kc, .bool false] ∧ Below w3.heap.size w3 wr ∧ wr.ownsRow w3.heap.size 45 2 u7 i (flat recB2 ((nf.take i).map keyP))) (fun _ _ _ _ u30 _ => m3 - (intOf u30).toNat)
      case atStart => exact ⟨0, Nat.zero_le _, rfl, C0.out, Below.refl _ _, own_nil _ _ _ _⟩
      case round =>
        obtain ⟨i, hi, rfl, D0, DE, hown⟩ := hrel
        have HB := Lib.hid (CE.out.step' DE)
        have HD0 := Lib.hid D0
        have HDE := Lib.hid DE
        have HOW := Lib.hid hown
        obtain ⟨A6, c6, rfl, _⟩ := own_slice hown
        by_cases hlt : i < m3
        · obtain ⟨y, hy⟩ : ∃ y, ys[i]? = some y := ⟨_, List.getElem?_eq_getElem (by have := HS3.out.sr.ln; omega)⟩
          obtain ⟨s, hs, hys⟩ : ∃ s, nf[i]? = some s ∧ ivP y = ivOf s := by
            have h1 := congrArg (fun l => l[i]?) HY3.out
            simp only [List.getElem?_map, hy, Option.map_some] at h1
            obtain ⟨s, h2, h3⟩ := Option.map_eq_some_iff.1 h1.symm
            exact ⟨s, h2, h3.symm⟩
          have HVO := Lib.hid (HGO.out.nf HN3.out (List.mem_of_getElem? hs))
          have HTK : Hid ((nf.take (i + 1)).map keyP = (nf.take i).map keyP ++ [keyP s]) := by
            rw [Hid, List.take_add_one, hs, List.map_append]
            rfl
          obtain ⟨b, off, rfl, hb3, hat, hok⟩ := HS3.out.at (i := i) (p := y) hy
          obtain ⟨⟨a0, a1, a2, a3, a4⟩, ⟨b0, b1, b2, b3, b4⟩, b5, b6⟩ := hat.keep (DE.block b hb3)
          have HOK := Lib.hid hok
          have HYS := Lib.hid hys
          have z1 : i + 1 ≤ maxLen := by have h1 := HM3.out; have h2 := HZ.out; unfold maxLen; omega
          have z2 : (i + 1) * 32 ≤ 140737488355328 := by have h1 := HM3.out; have h2 := HZ.out; omega
          have i0 : (0 : Int) ≤ (i : Int) := by omega
          have i1 : (i : Int) < (m3 : Int) := by omega
          clear hat hok DE D0 hown hs hys hy
          go_upto_region 8 with fail
          change Code.wp _ _ _ _ (wr.alloc (Obj.cells (arrI y) 67))
          have JB : Hid (Blk (wr.alloc (Obj.cells (arrI y) 67)) wr.heap.size 67 (arrI y)) := Blk.new_at rfl
          have E0 := Lib.hid (HD0.out.alloc (Obj.cells (arrI y) 67))
          have ED := Lib.hid (HDE.out.alloc HDE.out.size (Obj.cells (arrI y) 67))
          have EE := Lib.hid (HB.out.alloc HB.out.size (Obj.cells (arrI y) 67))
          have EO := Lib.hid (HOW.out.alloc (Obj.cells (arrI y) 67))
          generalize wr.alloc (Obj.cells (arrI y) 67) = wb at *
          generalize wr.heap.size = ga at *
          clear a0 a1 a2 a3 a4 b0 b1 b2 b3 b4 b5 b6 HB HDE HD0 HOW
          obtain ⟨⟨a0, a1, a2, a3, a4⟩, ⟨b0, b1, b2, b3, b4⟩, b5, b6⟩ := IAt.of_blk JB.out
          simp only [Nat.zero_add] at a0 a1 a2 a3 a4 b0 b1 b2 b3 b4 b5 b6
          have k1 := E0.out.cell 1
          simp at k1
          have HSP := Lib.hid (span_nf y s wb (HT.out.step EE.out) (HOK.out.step ED.out) HYS.out HVO.out.1 HVO.out.2.1)
          go_wp2_with fail
          refine HSP.out.mono ?_
          rintro e w4 ⟨rfl, hb⟩
          have F0 := Lib.hid (E0.out.step hb)
          have FD := Lib.hid (ED.out.step' hb)
          have FE := Lib.hid (EE.out.step' hb)
          have FO := Lib.hid (own_step EO.out hb)
          clear hb E0 ED EE EO JB HSP a0 a1 a2 a3 a4 b0 b1 b2 b3 b4 b5 b6 k1 HOK
          go_upto_region 12 with fail
          change Code.wp _ _ _ _ (w4.alloc (Obj.cells #[.string (keyP s).1, .string (keyP s).2] 45))
          have JB : Hid (Blk (w4.alloc (Obj.cells #[.string (keyP s).1, .string (keyP s).2] 45)) w4.heap.size 45 #[.string (keyP s).1, .string (keyP s).2]) := Blk.new_at rfl
          have G0 := Lib.hid (F0.out.alloc (Obj.cells #[.string (keyP s).1, .string (keyP s).2] 45))
          have GD := Lib.hid (FD.out.alloc FD.out.size (Obj.cells #[.string (keyP s).1, .string (keyP s).2] 45))
          have GO := Lib.hid (FO.out.alloc (Obj.cells #[.string (keyP s).1, .string (keyP s).2] 45))
          generalize w4.alloc (Obj.cells #[.string (keyP s).1, .string (keyP s).2] 45) = w5 at *
          generalize w4.heap.size = gb at *
          clear F0 FD FE FO
          have q0 := JB.out.cell 0
          have q1 := JB.out.cell 1
          simp at q0 q1
          have hlo3 : w3.heap.size ≤ w5.heap.size := GD.out.size
          have HLO : w.heap.size < w3.heap.size := C0.out.lt
          go_wp2_with (at_builtin; refine wpList_append_any _ rfl _ _ 43 rfl w3.heap.size 45 j0 (.agg #[.string ByteArray.empty, .string ByteArray.empty]) 2 32 Tryz.underlying43 hj0 hy0 hy1 hy2 rfl (by decide) (.slice A6 i c6) i (flat recB2 ((nf.take i).map keyP)) rfl (GO.out.alloc _) _ _ 1 _ (recB2 (keyP s)) rfl ⟨rfl, fun _ => ⟨_, rfl, Nat.lt_succ_self _, news_at _ _ _⟩⟩ (recB2_one _) z1 z2 (le_alloc hlo3 _) ?_)
          intro v' w6 hown hgr hat
          have HI := Lib.hid ((GD.out.alloc GD.out.size _).grown hgr (le_alloc hlo3 _) (own_ge GO.out))
          have HI0 := Lib.hid ((G0.out.alloc _).grown hgr (fun e => by have := own_ge GO.out _ e.symm; omega))
          have HO6 : Hid (w6.ownsRow w3.heap.size 45 2 v' (i + 1) (flat recB2 ((nf.take (i + 1)).map keyP))) := by
            rw [HTK.out, flat_append]
            exact Lib.hid (by simpa [flat] using hown)
          clear hown hgr hat q0 q1 JB G0 GD GO
          go_wp2_with fail
          go_roundw
          case rel => exact ⟨i + 1, by omega, by go_num, HI0.out, HI.out, HO6.out⟩
          case measure => simp [intOf]; omega
        · obtain rfl : i = m3 := by omega
          have hl : nf.length = i := by
            have h1 := congrArg List.length HY3.out
            simp only [List.length_map] at h1
            have := HS3.out.sr.ln
            omega
          have htk : nf.take i = nf := List.take_of_length_le (by omega)
          rw [htk] at HOW
          have HL := Lib.hid (show (nf.map keyP).length = i by rw [List.length_map]; exact hl)
          have HSZ : Hid (i ≤ 4000000000) := by have h1 := HM3.out; have h2 := HZ.out; exact Lib.hid (by omega)
          clear hl htk D0 DE hown
          go_wp2_with fail
          refine (joinedB_any (nf.map keyP) w3.heap.size i _ wr HOW.out HL.out HDE.out.size HSZ.out).mono ?_
          rintro e w4 ⟨A9, m9, c9, Z, rfl, hz9, hsr9, hm9, hb9⟩
          rw [HL.out] at hm9
          have HM9 : Hid (m9 ≤ 1000000000) := Lib.hid (by have h1 := HM3.out; have h2 := HZ.out; omega)
          have HZ9 := Lib.hid hz9
          have HS9 := Lib.hid hsr9
          have HB9 : Hid (Below w.heap.size w w4) := Lib.hid (HB.out.trans (hb9.mono CE.out.size))
          clear hz9 hsr9 hb9 hm9
          go_wp2_with fail
          go_ret
          exact ⟨A9, m9, c9, nf, _, rfl, HN3.out, .inl ⟨rfl, Z, HZ9.out, rfl⟩, HS9.out, HM9.out, HB9.out⟩
    · go_loopw [7, 9, 10, 11, 30] (fun u7 _ _ _ u30 wr => ∃ i : Nat, i ≤ m3 ∧ u30 = .int .i64 i ∧ Blk wr w.heap.size 24 #[.slice (some ⟨kb, ko, none⟩) kn kc, .bool true] ∧ Below w3.heap.size w3 wr ∧ wr.ownsRow w3.heap.size 45 2 u7 i (flat recB2 (((nf.take i).map fun s => hashV s.1.1).map keyH)) ∧ ∀ s ∈ nf.take i, cmpV s.1.1 s.2.1 = 0) (fun _ _ _ _ u30 _ => m3 - (intOf u30).toNat)
      case atStart => exact ⟨0, Nat.zero_le _, rfl, C0.out, Below.refl _ _, own_nil _ _ _ _, by simp⟩
      case round =>
        obtain ⟨i, hi, rfl, D0, DE, hown, hall⟩ := hrel
        have HB := Lib.hid (CE.out.step' DE)
        have HD0 := Lib.hid D0
        have HDE := Lib.hid DE
        have HOW := Lib.hid hown
        obtain ⟨A6, c6, rfl, _⟩ := own_slice hown
        by_cases hlt : i < m3
        · obtain ⟨y, hy⟩ : ∃ y, ys[i]? = some y := ⟨_, List.getElem?_eq_getElem (by have := HS3.out.sr.ln; omega)⟩
          obtain ⟨s, hs, hys⟩ : ∃ s, nf[i]? = some s ∧ ivP y = ivOf s := by
            have h1 := congrArg (fun l => l[i]?) HY3.out
            simp only [List.getElem?_map, hy, Option.map_some] at h1
            obtain ⟨s, h2, h3⟩ := Option.map_eq_some_iff.1 h1.symm
            exact ⟨s, h2, h3.symm⟩
          have HVO := Lib.hid (HGO.out.nf HN3.out (List.mem_of_getElem? hs))
          have HTK : Hid (((nf.take (i + 1)).map (fun s => hashV s.1.1)).map keyH = ((nf.take i).map fun s => hashV s.1.1).map keyH ++ [keyH (hashV s.1.1)]) := by
            rw [Hid, List.take_add_one, hs, List.map_append, List.map_append]
            rfl
          obtain ⟨b, off, rfl, hb3, hat, hok⟩ := HS3.out.at (i := i) (p := y) hy
          obtain ⟨⟨a0, a1, a2, a3, a4⟩, ⟨b0, b1, b2, b3, b4⟩, b5, b6⟩ := hat.keep (DE.block b hb3)
          have HOK := Lib.hid hok
          have HYS := Lib.hid hys
          have z1 : i + 1 ≤ maxLen := by have h1 := HM3.out; have h2 := HZ.out; unfold maxLen; omega
          have z2 : (i + 1) * 32 ≤ 140737488355328 := by have h1 := HM3.out; have h2 := HZ.out; omega
          have i0 : (0 : Int) ≤ (i : Int) := by omega
          have i1 : (i : Int) < (m3 : Int) := by omega
          have HALL := Lib.hid hall
          have HSS := Lib.hid hs
          clear hat hok DE D0 hown hs hys hy hall
          go_upto_region 8 with fail
          change Code.wp _ _ _ _ (wr.alloc (Obj.cells (arrI y) 67))
          have JB : Hid (Blk (wr.alloc (Obj.cells (arrI y) 67)) wr.heap.size 67 (arrI y)) := Blk.new_at rfl
          have E0 := Lib.hid (HD0.out.alloc (Obj.cells (arrI y) 67))
          have ED := Lib.hid (HDE.out.alloc HDE.out.size (Obj.cells (arrI y) 67))
          have EE := Lib.hid (HB.out.alloc HB.out.size (Obj.cells (arrI y) 67))
          have EO := Lib.hid (HOW.out.alloc (Obj.cells (arrI y) 67))
          generalize wr.alloc (Obj.cells (arrI y) 67) = wb at *
          generalize wr.heap.size = ga at *
          clear a0 a1 a2 a3 a4 b0 b1 b2 b3 b4 b5 b6 HB HDE HD0 HOW
          obtain ⟨⟨a0, a1, a2, a3, a4⟩, ⟨b0, b1, b2, b3, b4⟩, b5, b6⟩ := IAt.of_blk JB.out
          simp only [Nat.zero_add] at a0 a1 a2 a3 a4 b0 b1 b2 b3 b4 b5 b6
          have k1 := E0.out.cell 1
          simp at k1
          have HEQ := Lib.hid (vequal_any y.1.1.2 y.1.2.2 y.1.1.1 y.1.2.1 wb (HOK.out.step ED.out).1 (HOK.out.step ED.out).2)
          obtain ⟨q, hq⟩ : ∃ q, q = (cmpV y.1.1.2 y.1.2.2 == 0) := ⟨_, rfl⟩
          rw [← hq] at HEQ
          have HQ := Lib.hid hq
          clear hq
          go_wp2_with fail
          refine HEQ.out.mono ?_
          rintro e w4 ⟨rfl, hb⟩
          have F0 := Lib.hid (E0.out.step hb)
          have FD := Lib.hid (ED.out.step' hb)
          have FE := Lib.hid (EE.out.step' hb)
          have FO := Lib.hid (own_step EO.out hb)
          have FJ := Lib.hid (JB.out.step hb)
          have KOK := Lib.hid ((HOK.out.step ED.out).step hb)
          clear hb E0 ED EE EO JB HEQ a0 a1 a2 a3 a4 b0 b1 b2 b3 b4 b5 b6 k1 HOK
          have hlo : y.1.1.2 = s.1.1 := congrArg Iv.lo HYS.out
          have hhi : y.1.2.2 = s.2.1 := congrArg Iv.hi HYS.out
          rw [hlo, hhi] at HQ
          have HSM := Lib.hid (List.mem_of_getElem? HSS.out)
          cases q
          · have HNE : Hid (cmpV s.1.1 s.2.1 ≠ 0) := by
              have := HQ.out
              rw [Hid]
              simpa using this.symm
            clear hlo hhi HQ
            go_wp2_with fail
            go_ret
            exact ⟨_, 1, 1, nf, _, rfl, HN3.out, .inr (.inl ⟨rfl, rfl, s, HSM.out, HNE.out⟩), sr_oneB (q := (ByteArray.empty, ByteArray.empty)) (Blk.new_at rfl), by decide, FE.out.alloc FE.out.size _⟩
          · have HEZ : Hid (cmpV s.1.1 s.2.1 = 0) := by
              have := HQ.out
              rw [Hid]
              simpa using this.symm
            have HSP : Hid (Calls Tryz.prog 24 #[aggI y, .bool true] w4 fun e w' => e = .returned (.tuple #[.agg #[.string (keyH (hashV s.1.1)).1, .string (keyH (hashV s.1.1)).2], .bool true]) ∧ Below w4.heap.size w4 w') := by
              have := span_hash y w4 (HT.out.step FE.out) KOK.out
              rw [hlo] at this
              exact Lib.hid this
            clear hlo hhi HQ
            have k1 := F0.out.cell 1
            simp at k1
            obtain ⟨⟨a0, a1, a2, a3, a4⟩, ⟨b0, b1, b2, b3, b4⟩, b5, b6⟩ := IAt.of_blk FJ.out
            simp only [Nat.zero_add] at a0 a1 a2 a3 a4 b0 b1 b2 b3 b4 b5 b6
            go_wp2_with fail
            refine HSP.out.mono ?_
            rintro e w5 ⟨rfl, hb⟩
            obtain ⟨kh, hkh⟩ : ∃ kh, kh = keyH (hashV s.1.1) := ⟨_, rfl⟩
            rw [← hkh] at HTK ⊢
            clear hkh
            replace F0 := Lib.hid (F0.out.step hb)
            replace FD := Lib.hid (FD.out.step' hb)
            replace FE := Lib.hid (FE.out.step' hb)
            replace FO := Lib.hid (own_step FO.out hb)
            clear hb HSP a0 a1 a2 a3 a4 b0 b1 b2 b3 b4 b5 b6 k1 KOK FJ
            go_upto_region 12 with fail
            change Code.wp _ _ _ _ (w5.alloc (Obj.cells #[.string kh.1, .string kh.2] 45))
            have JB : Hid (Blk (w5.alloc (Obj.cells #[.string kh.1, .string kh.2] 45)) w5.heap.size 45 #[.string kh.1, .string kh.2]) := Blk.new_at rfl
            have G0 := Lib.hid (F0.out.alloc (Obj.cells #[.string kh.1, .string kh.2] 45))
            have GD := Lib.hid (FD.out.alloc FD.out.size (Obj.cells #[.string kh.1, .string kh.2] 45))
            have GO := Lib.hid (FO.out.alloc (Obj.cells #[.string kh.1, .string kh.2] 45))
            generalize w5.alloc (Obj.cells #[.string kh.1, .string kh.2] 45) = w6 at *
            generalize w5.heap.size = gb at *
            clear F0 FD FE FO
            have q0 := JB.out.cell 0
            have q1 := JB.out.cell 1
            simp at q0 q1
            have hlo3 : w3.heap.size ≤ w6.heap.size := GD.out.size
            have HLO : w.heap.size < w3.heap.size := C0.out.lt
            go_wp2_with (at_builtin; refine wpList_append_any _ rfl _ _ 43 rfl w3.heap.size 45 j0 (.agg #[.string ByteArray.empty, .string ByteArray.empty]) 2 32 Tryz.underlying43 hj0 hy0 hy1 hy2 rfl (by decide) (.slice A6 i c6) i (flat recB2 (((nf.take i).map fun s => hashV s.1.1).map keyH)) rfl (GO.out.alloc _) _ _ 1 _ (recB2 kh) rfl ⟨rfl, fun _ => ⟨_, rfl, Nat.lt_succ_self _, news_at _ _ _⟩⟩ (recB2_one _) z1 z2 (le_alloc hlo3 _) ?_)
            intro v' w7 hown hgr hat
            have HI := Lib.hid ((GD.out.alloc GD.out.size _).grown hgr (le_alloc hlo3 _) (own_ge GO.out))
            have HI0 := Lib.hid ((G0.out.alloc _).grown hgr (fun e => by have := own_ge GO.out _ e.symm; omega))
            have HO7 : Hid (w7.ownsRow w3.heap.size 45 2 v' (i + 1) (flat recB2 (((nf.take (i + 1)).map fun s => hashV s.1.1).map keyH))) := by
              rw [HTK.out, flat_append]
              exact Lib.hid (by simpa [flat] using hown)
            have HA2 : Hid (∀ t ∈ nf.take (i + 1), cmpV t.1.1 t.2.1 = 0) := Lib.hid fun t ht => by
              rw [List.take_add_one, HSS.out] at ht
              rcases List.mem_append.1 ht with ht | ht
              · exact HALL.out t ht
              · obtain rfl : t = s := by simpa using ht
                exact HEZ.out
            clear hown hgr hat q0 q1 JB G0 GD GO
            go_wp2_with fail
            go_roundw
            case rel => exact ⟨i + 1, by omega, by go_num, HI0.out, HI.out, HO7.out, HA2.out⟩
            case measure => simp [intOf]; omega
        · obtain rfl : i = m3 := by omega
          have hl : nf.length = i := by
            have h1 := congrArg List.length HY3.out
            simp only [List.length_map] at h1
            have := HS3.out.sr.ln
            omega
          have htk : nf.take i = nf := List.take_of_length_le (by omega)
          rw [htk] at HOW hall
          have HALL := Lib.hid hall
          have HL := Lib.hid (show ((nf.map fun s => hashV s.1.1).map keyH).length = i by rw [List.length_map, List.length_map]; exact hl)
          have HSZ : Hid (i ≤ 4000000000) := by have h1 := HM3.out; have h2 := HZ.out; exact Lib.hid (by omega)
          clear hl htk D0 DE hown hall
          go_wp2_with fail
          refine (joinedB_any ((nf.map fun s => hashV s.1.1).map keyH) w3.heap.size i _ wr HOW.out HL.out HDE.out.size HSZ.out).mono ?_
          rintro e w4 ⟨A9, m9, c9, Z, rfl, hz9, hsr9, hm9, hb9⟩
          rw [HL.out] at hm9
          have HM9 : Hid (m9 ≤ 1000000000) := Lib.hid (by have h1 := HM3.out; have h2 := HZ.out; omega)
          have HZ9 := Lib.hid hz9
          have HS9 := Lib.hid hsr9
          have HB9 : Hid (Below w.heap.size w w4) := Lib.hid (HB.out.trans (hb9.mono CE.out.size))
          clear hz9 hsr9 hb9 hm9
          go_wp2_with fail
          go_ret
          exact ⟨A9, m9, c9, nf, _, rfl, HN3.out, .inr (.inr ⟨rfl, HALL.out, Z, HZ9.out, rfl⟩), HS9.out, HM9.out, HB9.out⟩
end Go.Proofs.YtfkapannahcjiaaGreatDoor



/- The reference's Valid of a shape hands back a number. -/
namespace Go.Proofs.YtfkapannahcjiaaGreatDoor
open Go.RowKit

/-- some number is handed back -/
def AnyN (w : World) (e : Ending) (w' : World) : Prop := ∃ n : Int, e = .returned (.int .i64 n) ∧ Below w.heap.size w w'
def SomeB (w : World) (e : Ending) (w' : World) : Prop := ∃ b : Bool, e = .returned (.bool b) ∧ w' = w
theorem in10_any (n : Int) (w : World) : Calls Tryz.prog 103 #[.int .i64 n] w (SomeB w) := by
  go_enter Tryz.func103, Tryz.ntmps103
  go_wp2_with fail
  all_goals go_ret
  all_goals exact ⟨_, rfl, rfl⟩
set_option maxHeartbeats 1000000 in
theorem is10_any (x y : Int) (w : World) : Calls Tryz.prog 102 #[.agg #[.int .i64 x, .int .i64 y]] w (AnyB w) := by
  go_enter Tryz.func102, Tryz.ntmps102
  go_wp2_with (go_at_call 103; refine (in10_any _ _).mono ?_; rintro e w1 ⟨b, rfl, rfl⟩; cases b)
  all_goals go_ret
  all_goals exact ⟨_, rfl, (Below.refl _ _).alloc (Nat.le_refl _) _⟩
set_option maxRecDepth 100000 in
set_option maxHeartbeats 4000000 in
theorem shape_any (k r : Int) (s : Slc (Int × Int)) (w : World) (h : SR 2 recPt w s.A s.n s.c s.xs) (hz : s.n * 16 ≤ reach) : Calls Tryz.prog 49 #[.agg #[.int .i64 k, s.v, .int .i64 r]] w (AnyN w) := by
  have hzz : s.n ≤ 140737488355328 := by unfold reach at hz; omega
  have H := Lib.hid h
  clear h hz
  have B0 : Hid (Blk (w.alloc (Obj.cells #[.int .i64 k, .slice s.A s.n s.c, .int .i64 r] 32)) w.heap.size 32 #[.int .i64 k, .slice s.A s.n s.c, .int .i64 r]) := Blk.new_at rfl
  have BE := Lib.hid ((Below.refl w.heap.size w).alloc (Nat.le_refl _) (Obj.cells #[.int .i64 k, .slice s.A s.n s.c, .int .i64 r] 32))
  go_enter Tryz.func49, Tryz.ntmps49
  go_upto_region 1 with fail
  change Code.wp _ _ _ _ (w.alloc (Obj.cells #[.int .i64 k, .slice s.A s.n s.c, .int .i64 r] 32))
  generalize w.alloc (Obj.cells #[.int .i64 k, .slice s.A s.n s.c, .int .i64 r] 32) = wa at *
  have d1 := B0.out.cell 1
  simp at d1
  by_cases h64 : 64 < s.n
  · go_wp2_with fail
    go_ret
    exact ⟨_, rfl, BE.out⟩
  · go_upto_region 5 with fail
    go_loopw [4] (fun v wr => ∃ i : Nat, i ≤ s.n ∧ v = .int .i64 i ∧ Blk wr w.heap.size 32 #[.int .i64 k, .slice s.A s.n s.c, .int .i64 r] ∧ Below w.heap.size w wr) (fun v _ => s.n - (intOf v).toNat)
    case atStart => exact ⟨0, Nat.zero_le _, rfl, B0.out, BE.out⟩
    case round =>
      obtain ⟨i, hi, rfl, hb0, hbe⟩ := hrel
      clear B0 BE d1
      have B0 := Lib.hid hb0
      have BE := Lib.hid hbe
      have d0 := B0.out.cell 0
      have d1 := B0.out.cell 1
      have d2 := B0.out.cell 2
      simp at d0 d1 d2
      clear hb0 hbe
      by_cases hlt : i < s.n
      · obtain ⟨b, off, ⟨x, y⟩, hA, hb, _, _, hrg⟩ := H.out.row hlt
        have RG := Lib.hid (range_step hrg BE.out hb)
        rw [hA] at d1
        clear hrg hA
        go_wp2_with (first
          | ((with_reducible show wpList _ _ _ (⟨_, .load 117 _, _, _, _, _⟩ :: _) _ _); refine wpList_mid_w rfl 117 _ rfl b (off + i * 2) rfl _ _ RG.out Tryz.underlying117 rfl (by kernel_rfl) ?_)
          | (go_at_call 102; refine (is10_any x y _).mono ?_; rintro e w1 ⟨bb, rfl, hbb⟩; replace B0 := Lib.hid (B0.out.step hbb); replace BE := Lib.hid (BE.out.step' hbb); clear hbb; cases bb))
        · go_ret
          exact ⟨_, rfl, BE.out⟩
        · go_roundw
          case rel => exact ⟨i + 1, by omega, by go_num, B0.out, BE.out⟩
          case measure => simp [intOf]; omega
      · obtain rfl : i = s.n := by omega
        go_wp2_with (go_at_call 103; refine (in10_any _ _).mono ?_; rintro e w1 ⟨b, rfl, rfl⟩; cases b)
        all_goals go_ret
        all_goals exact ⟨_, rfl, BE.out⟩
end Go.Proofs.YtfkapannahcjiaaGreatDoor



/- The reference's Valid of an expression hands back a number. -/
namespace Go.Proofs.YtfkapannahcjiaaGreatDoor
open Go.RowKit
set_option linter.unusedSimpArgs false

theorem rw_zero8 (w : World) : RW w VC.zero Val.zero := RVs.shut ⟨rfl, rfl, rfl, by decide, rfl, Nat.le_refl _, by decide, fun h => absurd h (by decide), rfl, Nat.le_refl _, by decide, fun h => absurd h (by decide)⟩
theorem retn {a b : Int} (h : a = b) : Ending.returned (.int .i64 a) = .returned (.int .i64 b) := by rw [h]
def kidsN (op : Int) : Int :=
  if op = 1 ∨ op = 2 ∨ op = 3 then 0 else if op = 18 ∨ op = 22 ∨ op = 23 ∨ op = 24 ∨ op = 26 ∨ op = 30 ∨ op = 31 ∨ op = 36 then 1 else if op = 19 ∨ op = 25 then 3
  else if op = 4 ∨ op = 6 ∨ op = 16 ∨ op = 17 ∨ op = 21 ∨ op = 29 ∨ op = 37 ∨ op = 35 ∨ op = 34 then -1 else 2
set_option maxRecDepth 100000 in
set_option maxHeartbeats 4000000 in
theorem kidsX_any (op : Int) (w : World) : Calls Tryz.prog 173 #[.int .i64 op] w fun e w' => e = .returned (.int .i64 (kidsN op)) ∧ w' = w := by
  go_enter Tryz.func173, Tryz.ntmps173
  go_wp2_with fail
  all_goals go_ret
  all_goals refine ⟨retn ?_, rfl⟩
  all_goals simp only [beq_iff_eq, beq_eq_false_iff_ne, ne_eq] at *
  all_goals unfold kidsN
  all_goals (repeat' split)
  all_goals first | rfl | omega
theorem ST.cells {w : World} {A : Option Addr} {n c : Nat} {l : List ByteArray} (h : ST w A n c l) (h0 : 0 < n) : ∃ b off, A = some ⟨b, off, none⟩ ∧ b < w.heap.size ∧ ∀ i, i < n → ∃ x, w.cell? ⟨b, off + i, none⟩ = some (.string x) := by
  obtain ⟨b, off, e, hb, hc⟩ := h.sr.el h0
  refine ⟨b, off, e, hb, fun i hi => ?_⟩
  have hl : i < l.length := by have := h.sr.ln; omega
  have := hc i _ (List.getElem?_eq_getElem hl) 0 _ rfl
  rw [Nat.mul_one, Nat.add_zero] at this
  exact ⟨_, this⟩
set_option maxRecDepth 100000 in
set_option maxHeartbeats 2000000 in
theorem named_any (s : Slc ByteArray) (w : World) (h : ST w s.A s.n s.c s.xs) : Calls Tryz.prog 174 #[s.v] w (AnyB w) := by
  obtain ⟨A, n, c, xs⟩ := s
  have hz : n ≤ 140737488355328 := by have := h.sz; unfold reach at this; simp only at this; omega
  have H := Lib.hid h
  clear h
  simp only at H
  show Calls _ _ #[.slice A n c] w _
  go_enter Tryz.func174, Tryz.ntmps174
  go_upto_region 2 with fail
  go_loopw [3] (fun v wr => ∃ i : Nat, i ≤ n ∧ v = .int .i64 i ∧ Below w.heap.size w wr) (fun v _ => n - (intOf v).toNat)
  case atStart => exact ⟨0, Nat.zero_le _, rfl, Below.refl _ _⟩
  case round =>
    obtain ⟨i, hi, rfl, hbe⟩ := hrel
    have BE := Lib.hid hbe
    clear hbe
    by_cases hlt : i < n
    · obtain ⟨b, off, rfl, hb, hc⟩ := H.out.cells (by omega)
      obtain ⟨x, e0'⟩ := hc i hlt
      have HC := Lib.hid hc
      have E0 := Lib.hid e0'
      have e0 := (BE.out.cell (p := ⟨b, off + i, none⟩) hb).trans e0'
      clear e0' hc
      go_wp2_with fail
      refine (rname_any x _).mono ?_
      rintro e w1 ⟨rfl, rfl⟩
      obtain ⟨q, hq⟩ : ∃ q, q = nameB x := ⟨_, rfl⟩
      rw [← hq]
      clear hq
      cases q
      · go_wp2_with fail
        go_ret
        exact ⟨_, rfl, BE.out⟩
      · go_upto_region 7 with fail
        go_loopw [4] (fun v wz => ∃ k : Nat, k ≤ i ∧ v = .int .i64 k ∧ Below w.heap.size w wz) (fun v _ => i - (intOf v).toNat)
        case atStart => exact ⟨0, Nat.zero_le _, rfl, BE.out⟩
        case round =>
          obtain ⟨k, hk, rfl, hbk⟩ := hrel
          have BK := Lib.hid hbk
          clear hbk e0
          by_cases hkt : k < i
          · obtain ⟨y, f0'⟩ := HC.out k (by omega)
            have e0 := (BK.out.cell (p := ⟨b, off + i, none⟩) hb).trans E0.out
            have f0 := (BK.out.cell (p := ⟨b, off + k, none⟩) hb).trans f0'
            have X0 : ∀ kk : BW wr, kk.val.cell? ⟨b, off + i, none⟩ = some (.string x) := fun kk => kk.cell e0
            have Y0 : ∀ kk : BW wr, kk.val.cell? ⟨b, off + k, none⟩ = some (.string y) := fun kk => kk.cell f0
            have i0 : (0 : Int) ≤ (i : Int) := by omega
            have i1 : (i : Int) < (n : Int) := by omega
            have k0 : (0 : Int) ≤ (k : Int) := by omega
            have k1 : (k : Int) < (n : Int) := by omega
            clear f0'
            go_upto_region 9 with fail
            clear e0 f0
            refine wp_region_bw (by kernel_rfl) (by kernel_rfl) ?_
            repeat (go_big_quiet_step (fail))
            refine wpQuiet_nil ?_
            rintro _ ⟨kw, rfl⟩
            have HK := Lib.hid kw.below
            generalize kw.val = w5 at *
            clear X0 Y0
            cases hq : (y.toList == x.toList)
            · go_wp2_with fail
              go_roundw
              case rel => exact ⟨k + 1, by omega, by go_num, BK.out.step' HK.out⟩
              case measure => simp [intOf]; omega
            · go_wp2_with fail
              go_ret
              exact ⟨_, rfl, BK.out.step' HK.out⟩
          · obtain rfl : k = i := by omega
            go_wp2_with fail
            go_roundw
            case rel => exact ⟨k + 1, by omega, by go_num, BK.out⟩
            case measure => simp [intOf]; omega
    · go_wp2_with fail
      go_ret
      exact ⟨_, rfl, BE.out⟩

set_option maxRecDepth 100000 in
set_option maxHeartbeats 20000000 in
theorem nodeX_any (x : ExT) (w : World) (h : WX w x) (hT : Tabs w) : Calls Tryz.prog 139 #[aggEx x] w (AnyN w) := by
  have W := Lib.hid h.open
  have HT := Lib.hid hT
  clear h hT
  have hpz : x.path.n ≤ 140737488355328 := by have := W.out.path.sz; unfold reach at this; omega
  have hnz : x.names.n ≤ 140737488355328 := by have := W.out.names.sz; unfold reach at this; omega
  have hkz : x.kn ≤ 140737488355328 := by have := W.out.ksz; unfold reach at this; omega
  have B0 : Hid (Blk (w.alloc (Obj.cells (arrEx x) 35)) w.heap.size 35 (arrEx x)) := Blk.new_at rfl
  have BE := Lib.hid ((Below.refl w.heap.size w).alloc (Nat.le_refl _) (Obj.cells (arrEx x) 35))
  go_enter Tryz.func139, Tryz.ntmps139
  go_upto_region 1 with fail
  change Code.wp _ _ _ _ (w.alloc (Obj.cells (arrEx x) 35))
  generalize w.alloc (Obj.cells (arrEx x) 35) = wa at *
  obtain ⟨d0, d1, d2, d3, d9, d10⟩ := ex_cells B0.out
  go_cut [46] (fun v wx => ∃ b : Bool, v = .bool b ∧ Blk wx w.heap.size 35 (arrEx x) ∧ Below w.heap.size w wx)
  case first => as_aux_lemma =>
    have E0 : ∀ q : BW wa, q.val.cell? ⟨w.heap.size, 0, none⟩ = some (.int .i64 x.op) := fun q => q.cell d0
    have E3 : ∀ q : BW wa, q.val.cell? ⟨w.heap.size, 3, none⟩ = some (.slice x.names.A x.names.n x.names.c) := fun q => q.cell d3
    have E10 : ∀ q : BW wa, q.val.cell? ⟨w.heap.size, 10, none⟩ = some (.slice x.kA x.kn x.kc) := fun q => q.cell d10
    have K1 : Hid (∀ q : BW wa, Calls Tryz.prog 173 #[.int .i64 x.op] q.val fun e w'' => e = .returned (.int .i64 (kidsN x.op)) ∧ ∃ q : BW wa, w'' = q.val) := fun q =>
      (kidsX_any x.op q.val).mono fun e w' ⟨h1, h2⟩ => ⟨h1, q, h2⟩
    clear d0 d1 d2 d3 d9 d10
    obtain ⟨op, hop⟩ : ∃ op, op = x.op := ⟨_, rfl⟩
    obtain ⟨kn, hkn⟩ : ∃ kn, kn = x.kn := ⟨_, rfl⟩
    obtain ⟨nn, hnn⟩ : ∃ nn, nn = x.names.n := ⟨_, rfl⟩
    rw [← hop] at E0 K1
    rw [← hkn] at E10 hkz
    rw [← hnn] at E3 hnz
    obtain ⟨k, hk⟩ : ∃ k, k = kidsN op := ⟨_, rfl⟩
    rw [← hk] at K1
    clear hop hkn hnn hk
    have fin : ∀ (q : BW wa) (b : Bool), ∃ b' : Bool, Value.bool b = .bool b' ∧ Blk q.val w.heap.size 35 (arrEx x) ∧ Below w.heap.size w q.val := fun q b => ⟨b, rfl, B0.out.step q.below, BE.out.step' q.below⟩
    have FIN := Lib.hid fin
    clear fin
    have ways : (decide (op < 1) = true) ∨ (decide (op < 1) = false ∧ decide (op > 37) = true) ∨ (decide (op < 1) = false ∧ decide (op > 37) = false) := by
      by_cases h1 : op < 1 <;> by_cases h2 : op > 37 <;> simp [h1, h2]
    rcases ways with a1 | ⟨a1, a2⟩ | ⟨a1, a2⟩
    · refine wp_region_bw (by kernel_rfl) (by kernel_rfl) ?_
      repeat (go_big_quiet_step (with_reducible exact K1.out _))
      refine wpQuiet_nil ?_
      rintro _ ⟨kw, rfl⟩
      go_wp2_with fail
      go_meet
      exact FIN.out kw _
    · refine wp_region_bw (by kernel_rfl) (by kernel_rfl) ?_
      repeat (go_big_quiet_step (with_reducible exact K1.out _))
      refine wpQuiet_nil ?_
      rintro _ ⟨kw, rfl⟩
      go_wp2_with fail
      go_meet
      exact FIN.out kw _
    · have ways2 : (decide (k ≥ 0) = true ∧ ((kn : Int) != k) = true) ∨ (((decide (k ≥ 0) = true ∧ ((kn : Int) != k) = false) ∨ (decide (k ≥ 0) = false)) ∧ ((op == 34) = false ∨ (op == 34) = true ∧ ((kn : Int) != (nn : Int)) = true ∨ (op == 34) = true ∧ ((kn : Int) != (nn : Int)) = false ∧ ((kn : Int) == 0) = true ∨ (op == 34) = true ∧ ((kn : Int) != (nn : Int)) = false ∧ ((kn : Int) == 0) = false)) := by
        cases decide (k ≥ 0) <;> cases ((kn : Int) != k) <;> cases (op == 34) <;> cases ((kn : Int) != (nn : Int)) <;> cases ((kn : Int) == 0) <;> simp
      rcases ways2 with ⟨b1, b2⟩ | ⟨⟨b1, b2⟩ | b1, c1 | ⟨c1, c2⟩ | ⟨c1, c2, c3⟩ | ⟨c1, c2, c3⟩⟩
      all_goals
        refine wp_region_bw (by kernel_rfl) (by kernel_rfl) ?_
        repeat (go_big_quiet_step (with_reducible exact K1.out _))
        refine wpQuiet_nil ?_
        rintro _ ⟨kw, rfl⟩
        go_wp2_with fail
        go_meet
        exact FIN.out kw _
  case rest =>
    obtain ⟨b, rfl, hB0, hBE⟩ := hcut
    clear B0 BE d0 d1 d2 d3 d9 d10
    have B0 := Lib.hid hB0
    have BE := Lib.hid hBE
    obtain ⟨d0, d1, d2, d3, d9, d10⟩ := ex_cells B0.out
    clear hB0 hBE
    cases b
    · go_upto_region 3 with fail
      have HP := Lib.hid (W.out.path.step BE.out)
      go_cut [72] (fun v wx => ∃ b : Bool, v = .bool b ∧ wx = wc)
      case first => as_aux_lemma =>
        go_wp2_with (go_at_call 41; refine (rpath_any x.path.xs _ _ _ _ HP.out).mono ?_; rintro e w1 ⟨rfl, rfl⟩; obtain ⟨bb, hbb⟩ : ∃ b, b = pathB x.path.xs := ⟨_, rfl⟩; rw [← hbb]; clear hbb; cases bb)
        all_goals go_meet
        all_goals exact ⟨_, rfl, rfl⟩
      case rest =>
        obtain ⟨b, rfl, rfl⟩ := hcut
        cases b
        · go_upto_region 5 with fail
          obtain ⟨nb, hnb⟩ : ∃ nb, nb = (x.op == 3 || (x.op == 32 || x.op == 33)) := ⟨_, rfl⟩
          go_cut [3] (fun v wx => v = .bool nb ∧ wx = wc)
          case first =>
            go_wp2_with fail
            all_goals go_meet
            all_goals (refine ⟨?_, rfl⟩; rw [hnb]; simp [*, Bool.or_assoc])
          case rest =>
            obtain ⟨rfl, rfl⟩ := hcut
            have HNB := Lib.hid hnb
            clear hnb
            have HN := Lib.hid (W.out.names.step BE.out)
            go_upto_region 6 with fail
            go_cut [103] (fun v wx => ∃ b : Bool, v = .bool b ∧ Blk wx w.heap.size 35 (arrEx x) ∧ Below w.heap.size w wx)
            case first => as_aux_lemma =>
              cases nb
              all_goals go_wp2_with (first
                | (go_at_call 101; refine (rname_any x.name _).mono ?_; rintro e w1 ⟨rfl, rfl⟩; obtain ⟨bb, hbb⟩ : ∃ b, b = nameB x.name := ⟨_, rfl⟩; rw [← hbb]; clear hbb; cases bb)
                | (go_at_call 174; refine (named_any x.names _ HN.out).mono ?_; rintro e w1 ⟨bb, rfl, hb⟩; replace B0 := Lib.hid (B0.out.step hb); replace BE := Lib.hid (BE.out.step' hb); clear hb; cases bb))
              all_goals go_meet
              all_goals exact ⟨_, rfl, B0.out, BE.out⟩
            case rest =>
              obtain ⟨b, rfl, hB0, hBE⟩ := hcut
              clear B0 BE d0 d1 d2 d3 d9 d10
              have B0 := Lib.hid hB0
              have BE := Lib.hid hBE
              obtain ⟨d0, d1, d2, d3, d9, d10⟩ := ex_cells B0.out
              clear hB0 hBE
              cases b
              · go_upto_region 8 with fail
                have RA := Lib.hid (range_arg B0.out)
                have HA := Lib.hid (W.out.arg.step BE.out)
                go_cut [112] (fun v wx => ∃ b : Bool, v = .bool b ∧ Blk wx w.heap.size 35 (arrEx x) ∧ Below w.heap.size w wx)
                case first => as_aux_lemma =>
                  go_wp2_with (first
                    | ((with_reducible show wpList _ _ _ (⟨_, .load 29 _, _, _, _, _⟩ :: _) _ _); refine wpList_mid_w rfl 29 _ rfl w.heap.size 4 rfl _ _ RA.out Tryz.underlying29 rfl (by kernel_rfl) ?_)
                    | (go_at_call 11; refine (rvalid_any x.arg.2 x.arg.1 _ HA.out).mono ?_; rintro e w1 ⟨rfl, hb⟩; replace B0 := Lib.hid (B0.out.step hb); replace BE := Lib.hid (BE.out.step' hb); clear hb; obtain ⟨bb, hbb⟩ : ∃ b, b = validV x.arg.2 := ⟨_, rfl⟩; rw [← hbb]; clear hbb; cases bb))
                  all_goals go_meet
                  all_goals exact ⟨_, rfl, B0.out, BE.out⟩
                case rest =>
                  obtain ⟨b, rfl, hB0, hBE⟩ := hcut
                  clear B0 BE d0 d1 d2 d3 d9 d10 RA HA
                  have B0 := Lib.hid hB0
                  have BE := Lib.hid hBE
                  obtain ⟨d0, d1, d2, d3, d9, d10⟩ := ex_cells B0.out
                  clear hB0 hBE
                  cases b
                  · go_upto_region 10 with fail
                    have RA := Lib.hid (range_arg B0.out)
                    have HA := Lib.hid (W.out.arg.step BE.out)
                    obtain ⟨sv, hsv⟩ : ∃ sv, sv = sameV x.arg.2 Val.zero := ⟨_, rfl⟩
                    have HS : Hid (Calls Tryz.prog 175 #[x.arg.1.val, VC.zero.val] wc fun e w' => e = .returned (.bool sv) ∧ Below wc.heap.size wc w') := by
                      rw [hsv]
                      exact rsame_any x.arg.2 Val.zero x.arg.1 VC.zero wc HA.out (rw_zero8 _)
                    clear hsv
                    obtain ⟨op, hop⟩ : ∃ op, op = x.op := ⟨_, rfl⟩
                    rw [← hop] at d0 HNB
                    have HOP := Lib.hid hop
                    clear hop
                    have cl : (op = 1 ∧ nb = false) ∨ (op = 2 ∧ nb = false) ∨ (op = 3 ∧ nb = true) ∨ (op = 34 ∧ nb = false) ∨ ((op != 1) = true ∧ (op != 2) = true ∧ (op != 3) = true ∧ (op != 34) = true ∧ nb = true) ∨ ((op != 1) = true ∧ (op != 2) = true ∧ (op != 3) = true ∧ (op != 34) = true ∧ nb = false) := by
                      have h := HNB.out
                      by_cases h1 : op = 1
                      · subst h1; exact .inl ⟨rfl, h⟩
                      by_cases h2 : op = 2
                      · subst h2; exact .inr (.inl ⟨rfl, h⟩)
                      by_cases h3 : op = 3
                      · subst h3; exact .inr (.inr (.inl ⟨rfl, h⟩))
                      by_cases h4 : op = 34
                      · subst h4; exact .inr (.inr (.inr (.inl ⟨rfl, h⟩)))
                      have e1 : (op != 1) = true := by simpa using h1
                      have e2 : (op != 2) = true := by simpa using h2
                      have e3 : (op != 3) = true := by simpa using h3
                      have e4 : (op != 34) = true := by simpa using h4
                      clear h HNB
                      cases nb
                      · exact .inr (.inr (.inr (.inr (.inr ⟨e1, e2, e3, e4, rfl⟩))))
                      · exact .inr (.inr (.inr (.inr (.inl ⟨e1, e2, e3, e4, rfl⟩))))
                    clear HNB
                    rcases cl with ⟨rfl, rfl⟩ | ⟨rfl, rfl⟩ | ⟨rfl, rfl⟩ | ⟨rfl, rfl⟩ | ⟨e1, e2, e3, e4, rfl⟩ | ⟨e1, e2, e3, e4, rfl⟩
                    all_goals go_wp2_with (first
                      | (go_at_call 175; refine HS.out.mono ?_; rintro e w1 ⟨rfl, hb⟩; replace B0 := Lib.hid (B0.out.step hb); replace BE := Lib.hid (BE.out.step' hb); clear hb d0 d1 d2 d3 d9 d10; obtain ⟨d0, d1, d2, d3, d9, d10⟩ := ex_cells B0.out; rw [← HOP.out] at d0; cases sv)
                      | ((with_reducible show wpList _ _ _ (⟨_, .load 29 _, _, _, _, _⟩ :: _) _ _); refine wpList_mid_w rfl 29 _ rfl w.heap.size 4 rfl _ _ RA.out Tryz.underlying29 rfl (by kernel_rfl) ?_))
                    all_goals go_ret
                    all_goals exact ⟨_, rfl, BE.out⟩
                  · go_wp2_with fail
                    go_ret
                    exact ⟨_, rfl, BE.out⟩
              · go_wp2_with fail
                go_ret
                exact ⟨_, rfl, BE.out⟩
        · go_wp2_with fail
          go_ret
          exact ⟨_, rfl, BE.out⟩
    · go_wp2_with fail
      go_ret
      exact ⟨_, rfl, BE.out⟩
end Go.Proofs.YtfkapannahcjiaaGreatDoor



/- The reference: the fields that an operator does not use. -/
namespace Go.Proofs.YtfkapannahcjiaaGreatDoor
open Go.RowKit
set_option linter.unusedSimpArgs false

theorem op_classes (op : Int) : (onPathB op = false ∧ hasArgB op = false ∧ hasArgsB op = false) ∨ (onPathB op = true ∧ hasArgB op = true ∧ hasArgsB op = false) ∨ (onPathB op = true ∧ hasArgB op = false ∧ hasArgsB op = true) ∨ (onPathB op = true ∧ hasArgB op = false ∧ hasArgsB op = false) := by
  unfold onPathB hasArgB hasArgsB hasTextB
  by_cases h : 2 ≤ op ∧ op ≤ 19
  · have : op = 2 ∨ op = 3 ∨ op = 4 ∨ op = 5 ∨ op = 6 ∨ op = 7 ∨ op = 8 ∨ op = 9 ∨ op = 10 ∨ op = 11 ∨ op = 12 ∨ op = 13 ∨ op = 14 ∨ op = 15 ∨ op = 16 ∨ op = 17 ∨ op = 18 ∨ op = 19 := by omega
    rcases this with rfl | rfl | rfl | rfl | rfl | rfl | rfl | rfl | rfl | rfl | rfl | rfl | rfl | rfl | rfl | rfl | rfl | rfl <;> decide
  · refine .inl ⟨?_, ?_, ?_⟩
    · simp; omega
    · simp; omega
    · simp; omega
set_option maxRecDepth 100000 in
set_option maxHeartbeats 8000000 in
theorem unused_any (p : PrT) (w : World) : Calls Tryz.prog 50 #[aggPr p] w (AnyB w) := by
  have B0 : Hid (Blk (w.alloc (Obj.cells (arrPr p) 38)) w.heap.size 38 (arrPr p)) := Blk.new_at rfl
  have BE := Lib.hid ((Below.refl w.heap.size w).alloc (Nat.le_refl _) (Obj.cells (arrPr p) 38))
  go_enter Tryz.func50, Tryz.ntmps50
  go_upto_region 1 with fail
  change Code.wp _ _ _ _ (w.alloc (Obj.cells (arrPr p) 38))
  generalize w.alloc (Obj.cells (arrPr p) 38) = wa at *
  obtain ⟨d0, d1, _, _, d7, _, _, _⟩ := pr_cells B0.out
  have RA := Lib.hid (range_parg B0.out)
  have hcl := op_classes p.op
  obtain ⟨b1, hb1⟩ : ∃ b, b = onPathB p.op := ⟨_, rfl⟩
  obtain ⟨b2, hb2⟩ : ∃ b, b = hasArgB p.op := ⟨_, rfl⟩
  obtain ⟨b3, hb3⟩ : ∃ b, b = hasArgsB p.op := ⟨_, rfl⟩
  rw [← hb1, ← hb2, ← hb3] at hcl
  have HB1 := Lib.hid hb1
  have HB2 := Lib.hid hb2
  have HB3 := Lib.hid hb3
  have HCL := Lib.hid hcl
  clear hb1 hb2 hb3 hcl
  go_cut [36] (fun v wx => ∃ b : Bool, v = .bool b ∧ Blk wx w.heap.size 38 (arrPr p) ∧ Below w.heap.size w wx)
  case first =>
    rcases HCL.out with ⟨rfl, rfl, rfl⟩ | ⟨rfl, rfl, rfl⟩ | ⟨rfl, rfl, rfl⟩ | ⟨rfl, rfl, rfl⟩
    all_goals go_wp2_with (first
    | (go_at_call 46; refine (onPath_any _ _).mono ?_; rintro e w1 ⟨rfl, rfl⟩; rw [← HB1.out])
    | (go_at_call 47; refine (hasArg_any _ _).mono ?_; rintro e w1 ⟨rfl, rfl⟩; rw [← HB2.out])
    | (go_at_call 44; refine (hasArgs_any _ _).mono ?_; rintro e w1 ⟨rfl, rfl⟩; rw [← HB3.out])
    | (go_at_call 104; refine (missing13_any p.arg.1 _).mono ?_; rintro e w1 ⟨b, rfl, hb⟩; replace B0 := Lib.hid (B0.out.step hb); replace BE := Lib.hid (BE.out.step' hb); clear hb d0 d1 d7; obtain ⟨d0, d1, _, _, d7, _, _, _⟩ := pr_cells B0.out; cases b)
    | ((with_reducible show wpList _ _ _ (⟨_, .load 29 _, _, _, _, _⟩ :: _) _ _); refine wpList_mid_w rfl 29 _ rfl w.heap.size 2 rfl _ _ RA.out Tryz.underlying29 rfl (by kernel_rfl) ?_))
    all_goals go_meet
    all_goals exact ⟨_, rfl, B0.out, BE.out⟩
  case rest =>
    obtain ⟨b, rfl, hB0, hBE⟩ := hcut
    clear B0 BE d0 d1 d7 RA HB1 HB2 HB3 HCL
    have B0 := Lib.hid hB0
    have BE := Lib.hid hBE
    obtain ⟨d0, d1, _, _, d7, d8, d9, _⟩ := pr_cells B0.out
    clear hB0 hBE
    cases b
    · go_upto_region 3 with fail
      go_cut [69] (fun v wx => ∃ b : Bool, v = .bool b ∧ wx = wc)
      case first =>
        go_wp2_with fail
        all_goals go_meet
        all_goals exact ⟨_, rfl, rfl⟩
      case rest =>
        obtain ⟨b, rfl, rfl⟩ := hcut
        have RA := Lib.hid (range_parg B0.out)
        have RS := Lib.hid (range_pshape B0.out)
        have RE := Lib.hid (range_pex B0.out)
        cases b
        · cases h18 : (p.op == 18) <;> cases h24 : (p.op == 24)
          all_goals go_wp2_with (first
    | (go_at_call 105; refine (noShape_any p.sk p.sr p.pts _).mono ?_; rintro e w1 ⟨b, rfl, hb⟩; replace B0 := Lib.hid (B0.out.step hb); replace BE := Lib.hid (BE.out.step' hb); replace RE := Lib.hid (range_pex B0.out); clear hb d0 d1 d7 d8 d9; obtain ⟨d0, _, _, _, _, _, _, _⟩ := pr_cells B0.out; cases b)
    | (go_at_call 106; refine (noExpr_any p.ex _).mono ?_; rintro e w1 ⟨b, rfl, hb⟩; replace BE := Lib.hid (BE.out.step' hb); clear hb; cases b)
    | ((with_reducible show wpList _ _ _ (⟨_, .load 32 _, _, _, _, _⟩ :: _) _ _); refine wpList_mid_w rfl 32 _ rfl w.heap.size 10 rfl _ _ RS.out Tryz.underlying32 rfl (by kernel_rfl) ?_)
    | ((with_reducible show wpList _ _ _ (⟨_, .load 35 _, _, _, _, _⟩ :: _) _ _); refine wpList_mid_w rfl 35 _ rfl w.heap.size 13 rfl _ _ RE.out Tryz.underlying35 rfl (by kernel_rfl) ?_))
          all_goals go_ret
          all_goals exact ⟨_, rfl, BE.out⟩
        · go_wp2_with fail
          go_ret
          exact ⟨_, rfl, BE.out⟩
    · go_wp2_with fail
      go_ret
      exact ⟨_, rfl, BE.out⟩
end Go.Proofs.YtfkapannahcjiaaGreatDoor



/- The reference counts the nodes of a predicate. -/
namespace Go.Proofs.YtfkapannahcjiaaGreatDoor
open Go.RowKit

/-- what count hands back -/
def CountOk (p : PrT) (lf : Int) (w : World) (e : Ending) (w' : World) : Prop := ∃ r : Int, e = .returned (.int .i64 r) ∧ -1 ≤ r ∧ r ≤ 1000 ∧ (0 ≤ r → r = lf - p.nodes) ∧ Below w.heap.size w w'
theorem nodesL_take {l : List PrT} {i : Nat} {k : PrT} (h : l[i]? = some k) : PrT.nodes.nodesL (l.take (i + 1)) = PrT.nodes.nodesL (l.take i) + k.nodes := by
  induction l generalizing i with
  | nil => simp at h
  | cons x r ih =>
    cases i with
    | zero => simp at h; subst h; simp [PrT.nodes.nodesL]
    | succ i =>
      have := ih (i := i) (by simpa using h)
      simp only [List.take_succ_cons, PrT.nodes.nodesL] at *
      omega
/-- the loop of count -/
structure CtI (p : PrT) (lf : Int) (w : World) (i : Nat) (r : Int) (wr : World) : Prop where
  b0 : Blk wr w.heap.size 38 (arrPr p)
  bel : Below w.heap.size w wr
  lo : -1 ≤ r
  hi : r ≤ 1000
  eq : 0 ≤ r → r = lf - 1 - (PrT.nodes.nodesL (p.kids.take i) : Nat)
end Go.Proofs.YtfkapannahcjiaaGreatDoor



/- The reference's check and Valid of expressions, node and Valid of predicates. -/
namespace Go.Proofs.YtfkapannahcjiaaGreatDoor
open Go.RowKit
set_option linter.unusedSimpArgs false

def ChkOk (w : World) (e : Ending) (w' : World) : Prop := ∃ a b : Int, e = .returned (.tuple #[.int .i64 a, .int .i64 b]) ∧ 1 ≤ a ∧ a ≤ 257 ∧ (b = 0 → a ≤ 256) ∧ Below w.heap.size w w'
structure CkI (x : ExT) (w : World) (a : Int) (wr : World) : Prop where
  b0 : Blk wr w.heap.size 35 (arrEx x)
  bel : Below w.heap.size w wr
  lo : 1 ≤ a
  hi : a ≤ 256
set_option maxRecDepth 100000 in
set_option maxHeartbeats 4000000 in
theorem check8_any (x : ExT) : ∀ (nu lv : Int) (w : World), WX w x → Tabs w → 1 ≤ nu → nu ≤ 257 → 1 ≤ lv → lv ≤ 17 → Calls Tryz.prog 107 #[aggEx x, .int .i64 nu, .int .i64 lv] w (ChkOk w) := by
  induction x using ExT.ind with
  | h x ih =>
  intro nu lv w hw hT h1 h2 h3 h4
  have HT := Lib.hid hT
  have HW := Lib.hid hw
  have W := Lib.hid hw.open
  have IH := Lib.hid ih
  have hkz : x.kn ≤ 140737488355328 := by have := W.out.ksz; unfold reach at this; omega
  clear ih hw hT
  have B0 : Hid (Blk (w.alloc (Obj.cells (arrEx x) 35)) w.heap.size 35 (arrEx x)) := Blk.new_at rfl
  have BE := Lib.hid ((Below.refl w.heap.size w).alloc (Nat.le_refl _) (Obj.cells (arrEx x) 35))
  go_enter Tryz.func107, Tryz.ntmps107
  go_upto_region 1 with fail
  change Code.wp _ _ _ _ (w.alloc (Obj.cells (arrEx x) 35))
  generalize w.alloc (Obj.cells (arrEx x) 35) = wa at *
  by_cases hz : 16 < lv ∨ 256 < nu
  · go_cut [17] (fun v wx => v = .bool true ∧ wx = wa)
    case first =>
      go_wp2_with fail
      all_goals go_meet
      all_goals first | exact ⟨rfl, rfl⟩ | (exfalso; omega) | (refine ⟨?_, rfl⟩; simp; omega)
    case rest =>
      obtain ⟨rfl, rfl⟩ := hcut
      go_wp2_with fail
      go_ret2
      exact ⟨nu, 2, rfl, h1, h2, fun h => absurd h (by omega), BE.out⟩
  · have g1 : ¬ 16 < lv := by omega
    have g2 : ¬ 256 < nu := by omega
    have g4 : wrap64 (lv + 1) = lv + 1 := by unfold wrap64; omega
    clear hz
    have RF := Lib.hid (ex_full B0.out)
    go_upto_region 3 with fail
    go_wp2_with (first
      | ((with_reducible show wpList _ _ _ (⟨_, .load 35 _, _, _, _, _⟩ :: _) _ _); refine wpList_mid_w rfl 35 _ rfl w.heap.size 0 rfl _ _ RF.out Tryz.underlying35 rfl (by kernel_rfl) ?_)
      | (go_at_call 139; fail))
    refine (nodeX_any x wa (HW.out.step BE.out) (HT.out.step BE.out)).mono ?_
    rintro e w1 ⟨er, rfl, hb⟩
    replace B0 := Lib.hid (B0.out.step hb)
    replace BE := Lib.hid (BE.out.step' hb)
    clear hb RF
    by_cases he : er = 0
    · subst he
      go_upto_region 7 with fail
      go_loopw [1, 9, 10, 11] (fun v1 v9 _ _ wr => ∃ (i : Nat) (a : Int), i ≤ x.kn ∧ v1 = .int .i64 a ∧ v9 = .int .i64 i ∧ CkI x w a wr) (fun _ v9 _ _ _ => x.kn - (intOf v9).toNat)
      case atStart => exact ⟨0, nu, Nat.zero_le _, rfl, rfl, B0.out, BE.out, h1, by omega⟩
      case round =>
        obtain ⟨i, a, hi, rfl, rfl, hI⟩ := hrel
        have HI := Lib.hid hI
        obtain ⟨_, _, _, _, _, d10⟩ := ex_cells hI.b0
        have alo := hI.lo
        have ahi := hI.hi
        clear hI
        have g3 : wrap64 (a + 1) = a + 1 := by unfold wrap64; omega
        by_cases hlt : i < x.kn
        · obtain ⟨b, off, y, hA, hb, hx, hm, hrg⟩ := W.out.sr.row hlt
          have RG := Lib.hid (range_step hrg HI.out.bel hb)
          have KW := Lib.hid ((W.out.kids y hm).step HI.out.bel)
          have IX := Lib.hid (IH.out y hm)
          have KT := Lib.hid (HT.out.step HI.out.bel)
          rw [hA] at d10
          clear hrg hx hm hA
          go_wp2_with (first
            | ((with_reducible show wpList _ _ _ (⟨_, .load 35 _, _, _, _, _⟩ :: _) _ _); refine wpList_mid_w rfl 35 _ rfl b (off + i * 11) rfl _ _ RG.out Tryz.underlying35 rfl (by kernel_rfl) ?_)
            | (go_at_call 107; (try rw [g4]); (try rw [g3]); refine (IX.out (a + 1) (lv + 1) _ KW.out KT.out (by omega) (by omega) (by omega) (by omega)).mono ?_; rintro e w1 ⟨r, er, rfl, hr1, hr2, hr3, hbb⟩; have H3 := Lib.hid hr3; have HB := Lib.hid hbb; clear hr3 hbb; by_cases he : er = 0; (focus (subst he))))
          · have : r ≤ 256 := by simpa using H3.out
            go_roundw
            case rel => exact ⟨i + 1, r, by omega, rfl, by go_num, HI.out.b0.step HB.out, HI.out.bel.step' HB.out, hr1, this⟩
            case measure => simp [intOf]; omega
          · have he' : (er != 0) = true := by simpa using he
            go_wp2_with fail
            go_ret2
            exact ⟨r, er, rfl, hr1, hr2, H3.out, HI.out.bel.step' HB.out⟩
        · go_wp2_with fail
          go_ret2
          exact ⟨a, 0, rfl, alo, by omega, fun _ => ahi, HI.out.bel⟩
    · have he' : (er != 0) = true := by simpa using he
      clear he
      go_wp2_with fail
      go_ret2
      exact ⟨nu, er, rfl, h1, h2, fun _ => by omega, BE.out⟩
set_option maxRecDepth 100000 in
set_option maxHeartbeats 2000000 in
theorem valid8_any (x : ExT) (w : World) (h : WX w x) (hT : Tabs w) : Calls Tryz.prog 51 #[aggEx x] w (AnyN w) := by
  have HT := Lib.hid hT
  have HW := Lib.hid h
  clear h hT
  have B0 : Hid (Blk (w.alloc (Obj.cells (arrEx x) 35)) w.heap.size 35 (arrEx x)) := Blk.new_at rfl
  have BE := Lib.hid ((Below.refl w.heap.size w).alloc (Nat.le_refl _) (Obj.cells (arrEx x) 35))
  go_enter Tryz.func51, Tryz.ntmps51
  go_upto_region 1 with fail
  change Code.wp _ _ _ _ (w.alloc (Obj.cells (arrEx x) 35))
  generalize w.alloc (Obj.cells (arrEx x) 35) = wa at *
  have RF := Lib.hid (ex_full B0.out)
  go_wp2_with (first
      | ((with_reducible show wpList _ _ _ (⟨_, .load 35 _, _, _, _, _⟩ :: _) _ _); refine wpList_mid_w rfl 35 _ rfl w.heap.size 0 rfl _ _ RF.out Tryz.underlying35 rfl (by kernel_rfl) ?_)
      | (go_at_call 107; refine (check8_any x 1 1 _ (HW.out.step BE.out) (HT.out.step BE.out) (by omega) (by omega) (by omega) (by omega)).mono ?_; rintro e w1 ⟨r, er, rfl, _, _, _, hb⟩; replace BE := Lib.hid (BE.out.step' hb); clear hb B0 RF))
  go_ret
  exact ⟨er, rfl, BE.out⟩
end Go.Proofs.YtfkapannahcjiaaGreatDoor


