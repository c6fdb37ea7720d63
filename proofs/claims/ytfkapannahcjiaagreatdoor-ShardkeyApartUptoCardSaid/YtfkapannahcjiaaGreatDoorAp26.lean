/- Parts of the proof, joined: BoOfC, ShOf. -/
import Derived.Test.YtfkapannahcjiaaGreatDoorAp25
import Derived.Test.YtfkapannahcjiaaGreatDoorAp23
import Derived.Test.YtfkapannahcjiaaGreatDoorAp5
import Derived.Test.YtfkapannahcjiaaGreatDoorAp4
/- bounds.Of at a kind. Printed by gen_boofc.py. -/
namespace Go.Proofs.YtfkapannahcjiaaGreatDoor
open Go.RowKit
set_option linter.unusedSimpArgs false

set_option maxRecDepth 100000 in
set_option maxHeartbeats 8000000 in
theorem of_kind (p : PrT) (h : p.op = 11) (hn : 1 ≤ p.n ∧ p.n ≤ 11) (A : Option Addr) (n c : Nat) (l : List ByteArray) (w : World) (hw : WP w p) (hT : Tabs w) (hl : ST w A n c l) (hp : p.path.xs = l) :
    Calls Tryz.prog 22 #[aggPr p, .slice A n c] w (OfOk (leafS 11 p.arg.2 (p.args.xs.map Prod.snd) p.n) p.sz w) := by
  have HE : Hid (∀ wr, Below w.heap.size w wr → Calls Tryz.prog 57 #[.slice p.path.A p.path.n p.path.c, .slice A n c] wr fun e w' => e = .returned (.bool (sameP p.path.xs l)) ∧ Below wr.heap.size wr w') := Lib.hid fun wr hb => equal_any p.path.xs l p.path.A A p.path.n p.path.c n c wr (hw.open.path.step hb) (hl.step hb)
  rw [sameP_iff.2 hp] at HE
  have HT := Lib.hid hT
  have HSZ : Hid (1 ≤ p.sz) := by rw [Hid, p.sz_eq]; omega
  have HN := Lib.hid hn
  clear hw hT hl hp hn
  have B0 : Hid (Blk (w.alloc (Obj.cells (arrPr p) 38)) w.heap.size 38 (arrPr p)) := Blk.new_at rfl
  have BE := Lib.hid ((Below.refl w.heap.size w).alloc (Nat.le_refl _) (Obj.cells (arrPr p) 38))
  go_enter Tryz.func22, Tryz.ntmps22
  go_upto_region 1 with fail
  change Code.wp _ _ _ _ (w.alloc (Obj.cells (arrPr p) 38))
  generalize w.alloc (Obj.cells (arrPr p) 38) = wa at *
  obtain ⟨d0, d1, _, _, _, _, _, _⟩ := pr_cells B0.out
  rw [h] at d0
  go_wp2_with fail
  refine (HE.out _ BE.out).mono ?_
  rintro e w1 ⟨rfl, hb⟩
  replace BE := Lib.hid (BE.out.step' hb)
  replace B0 := Lib.hid (B0.out.step hb)
  clear hb d0 d1 HE
  obtain ⟨d0, _, _, _, _, d8, _, _⟩ := pr_cells B0.out
  rw [h] at d0
  clear h
  by_cases h6 : p.n = 6
  · have HL : Hid (leafS 11 p.arg.2 (p.args.xs.map Prod.snd) p.n = (allS, false)) := Lib.hid (leafS_none (by rw [h6]; exact leafI_kind6))
    rw [h6] at d8
    clear h6
    go_wp2_with fail
    refine (kindRange6 w1).mono ?_
    rintro e w2 ⟨rfl, hb⟩
    replace BE := Lib.hid (BE.out.step' hb)
    clear hb B0 d0 d8
    go_upto_region 25 with fail
    change Code.wp _ _ _ _ (w2.alloc (Obj.cells (arrI zI) 67))
    replace BE := Lib.hid (BE.out.alloc BE.out.size (Obj.cells (arrI zI) 67))
    generalize w2.alloc (Obj.cells (arrI zI) 67) = w3 at *
    go_wp2_with fail
    refine (allF_any _).mono ?_
    rintro e w4 ⟨A3, m3, c3, ys, nf, rfl, hy, hnf, hmk, hsi, hb3, hfr⟩
    have HNO := Lib.hid (show OfOk (allS, false) 1 w3 (.returned (.tuple #[.slice A3 m3 c3, .bool false])) w4 from ⟨A3, m3, c3, ys, nf, rfl, hy, hnf, hmk, hsi, hb3, hfr⟩)
    clear hy hnf hmk hsi hb3 hfr
    go_wp2_with fail
    go_ret2
    rw [HL.out]
    exact HNO.out.up BE.out HSZ.out
  · have HL : Hid (leafS 11 p.arg.2 (p.args.xs.map Prod.snd) p.n = ((fun a => inS cmC a (spansL ([rngP p.n].map ivP))), decide (p.n ≠ 2))) := by
      rw [Hid, leafS_some (leafI_kind h6), List.map_singleton, rngP_iv HN.out h6]
    have KR := Lib.hid (kindRange_any p.n w1 HN.out h6)
    clear h6
    obtain ⟨b2, hb2⟩ : ∃ b, b = decide (p.n ≠ 2) := ⟨_, rfl⟩
    rw [← hb2] at HL
    have k2 : (p.n != 2) = b2 := by rw [hb2, Bool.eq_iff_iff]; simp
    clear hb2
    have HQ : Hid (∀ wq : World, okI wq (rngP p.n)) := Lib.hid fun wq => rngP_ok p.n wq
    go_wp2_with fail
    refine KR.out.mono ?_
    obtain ⟨q, hq⟩ : ∃ q, q = rngP p.n := ⟨_, rfl⟩
    rw [← hq] at HL HQ
    rintro e w2 ⟨rfl, hb⟩
    rw [← hq]
    clear hq KR
    replace BE := Lib.hid (BE.out.step' hb)
    replace B0 := Lib.hid (B0.out.step hb)
    clear hb d0 d8
    go_upto_region 25 with fail
    change Code.wp _ _ _ _ (w2.alloc (Obj.cells (arrI q) 67))
    have J : Hid (Blk (w2.alloc (Obj.cells (arrI q) 67)) w2.heap.size 67 (arrI q)) := Blk.new_at rfl
    replace BE := Lib.hid (BE.out.alloc BE.out.size (Obj.cells (arrI q) 67))
    replace B0 := Lib.hid (B0.out.alloc (Obj.cells (arrI q) 67))
    generalize w2.alloc (Obj.cells (arrI q) 67) = w3 at *
    generalize w2.heap.size = gj at *
    obtain ⟨_, _, _, _, _, d8, _, _⟩ := pr_cells B0.out
    go_upto_region 26 with fail
    have B := Lib.hid ((Below.refl w3.heap.size w3).drewN 1)
    obtain ⟨⟨a0, a1, a2, a3, a4⟩, ⟨b0, b1, b2', b3, b4⟩, b5, b6⟩ := IAt.of_blk J.out
    simp only [Nat.zero_add] at a0 a1 a2 a3 a4 b0 b1 b2' b3 b4 b5 b6
    have KS : Hid (∀ w', Below w3.heap.size w3 w' → (fun w' => w'.cell? ⟨gj, 0, none⟩ = some (.int .i64 q.1.1.1.k) ∧ w'.cell? ⟨gj, 1, none⟩ = some (.int .i64 q.1.1.1.n) ∧ w'.cell? ⟨gj, 2, none⟩ = some (.string q.1.1.1.t) ∧ w'.cell? ⟨gj, 3, none⟩ = some (.slice q.1.1.1.LA q.1.1.1.ln q.1.1.1.lc) ∧ w'.cell? ⟨gj, 4, none⟩ = some (.slice q.1.1.1.DA q.1.1.1.dn q.1.1.1.dc) ∧ w'.cell? ⟨gj, 5, none⟩ = some (.int .i64 q.1.2.1.k) ∧ w'.cell? ⟨gj, 6, none⟩ = some (.int .i64 q.1.2.1.n) ∧ w'.cell? ⟨gj, 7, none⟩ = some (.string q.1.2.1.t) ∧ w'.cell? ⟨gj, 8, none⟩ = some (.slice q.1.2.1.LA q.1.2.1.ln q.1.2.1.lc) ∧ w'.cell? ⟨gj, 9, none⟩ = some (.slice q.1.2.1.DA q.1.2.1.dn q.1.2.1.dc) ∧ w'.cell? ⟨gj, 10, none⟩ = some (.bool q.2.1) ∧ w'.cell? ⟨gj, 11, none⟩ = some (.bool q.2.2) ∧ w'.cell? ⟨w.heap.size, 8, none⟩ = some (.int .i64 p.n)) w') := Lib.hid fun w' hb => ⟨(hb.cell (p := ⟨gj, 0, none⟩) J.out.lt).trans a0, (hb.cell (p := ⟨gj, 1, none⟩) J.out.lt).trans a1, (hb.cell (p := ⟨gj, 2, none⟩) J.out.lt).trans a2, (hb.cell (p := ⟨gj, 3, none⟩) J.out.lt).trans a3, (hb.cell (p := ⟨gj, 4, none⟩) J.out.lt).trans a4, (hb.cell (p := ⟨gj, 5, none⟩) J.out.lt).trans b0, (hb.cell (p := ⟨gj, 6, none⟩) J.out.lt).trans b1, (hb.cell (p := ⟨gj, 7, none⟩) J.out.lt).trans b2', (hb.cell (p := ⟨gj, 8, none⟩) J.out.lt).trans b3, (hb.cell (p := ⟨gj, 9, none⟩) J.out.lt).trans b4, (hb.cell (p := ⟨gj, 10, none⟩) J.out.lt).trans b5, (hb.cell (p := ⟨gj, 11, none⟩) J.out.lt).trans b6, (hb.cell (p := ⟨w.heap.size, 8, none⟩) B0.out.lt).trans d8⟩
    clear a0 a1 a2 a3 a4 b0 b1 b2' b3 b4 b5 b6 d8
    go_region_held3 (fun w' => w'.cell? ⟨gj, 0, none⟩ = some (.int .i64 q.1.1.1.k) ∧ w'.cell? ⟨gj, 1, none⟩ = some (.int .i64 q.1.1.1.n) ∧ w'.cell? ⟨gj, 2, none⟩ = some (.string q.1.1.1.t) ∧ w'.cell? ⟨gj, 3, none⟩ = some (.slice q.1.1.1.LA q.1.1.1.ln q.1.1.1.lc) ∧ w'.cell? ⟨gj, 4, none⟩ = some (.slice q.1.1.1.DA q.1.1.1.dn q.1.1.1.dc) ∧ w'.cell? ⟨gj, 5, none⟩ = some (.int .i64 q.1.2.1.k) ∧ w'.cell? ⟨gj, 6, none⟩ = some (.int .i64 q.1.2.1.n) ∧ w'.cell? ⟨gj, 7, none⟩ = some (.string q.1.2.1.t) ∧ w'.cell? ⟨gj, 8, none⟩ = some (.slice q.1.2.1.LA q.1.2.1.ln q.1.2.1.lc) ∧ w'.cell? ⟨gj, 9, none⟩ = some (.slice q.1.2.1.DA q.1.2.1.dn q.1.2.1.dc) ∧ w'.cell? ⟨gj, 10, none⟩ = some (.bool q.2.1) ∧ w'.cell? ⟨gj, 11, none⟩ = some (.bool q.2.2) ∧ w'.cell? ⟨w.heap.size, 8, none⟩ = some (.int .i64 p.n))
      (first | exact KS.out _ B.out | exact KS.out _ (B.out.alloc B.out.size _) | ((try dsimp only); assumption) | go_keep)
      ((go_at_call 61; refine (normalF_any [q] _ 1 1 _ (HT.out.step (BE.out.step' (B.out.alloc B.out.size _))) (si_one (Blk.new_at rfl) (HQ.out _)) (by omega)).mono ?_; rintro e3 w5 ⟨A3, m3, c3, ys, nf, rfl, hy, hnf, hmk, hsi, hb3, hfr⟩; have HNO := Lib.hid (show OfOk ((fun a => inS cmC a (spansL ([q].map ivP))), b2) 1 _ (.returned (.tuple #[.slice A3 m3 c3, .bool b2])) w5 from ⟨A3, m3, c3, ys, nf, rfl, hy, hnf, hmk, hsi, hb3, hfr⟩); replace HNO := Lib.hid (HNO.out.up (B.out.alloc B.out.size _) (Nat.le_refl _)); replace B := Lib.hid ((B.out.alloc B.out.size _).step' hb3); clear hy hnf hmk hsi hb3 hfr))
    all_goals
      go_wp2_with fail
      go_ret2
      rw [HL.out]
      exact HNO.out.up BE.out HSZ.out
end Go.Proofs.YtfkapannahcjiaaGreatDoor



/- bounds.Of and shardkey.Ranges at the two predicates of the first checks. Printed by gen_shof.py. -/
namespace Go.Proofs.YtfkapannahcjiaaGreatDoor
open Go.RowKit

abbrev predA (op : Int) (PA : Option Addr) (pn pc : Nat) (a : VC) : Array Value := #[.int .i64 op, .slice PA pn pc, .int .i64 a.k, .int .i64 a.n, .string a.t, .slice a.LA a.ln a.lc, .slice a.DA a.dn a.dc, .slice none 0 0, .int .i64 0, .int .i64 0, .int .i64 0, .slice none 0 0, .int .i64 0, .int .i64 0, .slice none 0 0, .string ByteArray.empty, .slice none 0 0, .int .i64 0, .int .i64 0, .string ByteArray.empty, .slice none 0 0, .slice none 0 0, .int .i64 0, .slice none 0 0, .slice none 0 0]
abbrev predV (op : Int) (PA : Option Addr) (pn pc : Nat) (a : VC) : Value := .agg (predA op PA pn pc a)

theorem pt_nf {x : Val} (h : validV x = true) : IsNF (fun a => inS cmC a (spansL [ptIv x])) [((x, false), (x, true))] := by
  have hne : (ptIv x).ne = true := by rw [pt_ne]; exact h
  have e : spansL [ptIv x] = [((x, false), (x, true))] := by unfold spansL; rw [List.filter_cons_of_pos hne]; rfl
  refine ⟨⟨fun s hs => ?_, by simp⟩, fun a => by rw [e]⟩
  rw [← e] at hs
  exact spansL_ne s hs
/-- one interval is handed back -/
def OneOk (q : Iv) (b : Bool) (w : World) (e : Ending) (w' : World) : Prop :=
  ∃ (A : Option Addr) (c : Nat) (p : PI), e = .returned (.tuple #[.slice A 1 c, .bool b]) ∧ ivP p = q ∧ SI w' A 1 c [p] ∧ Below w.heap.size w w'
theorem norm_one {S : Cut → Prop} {s : Cut × Cut} {k : Nat} {w : World} {e : Ending} {w' : World} (h : NormOk S k w e w') (hs : IsNF S [s]) :
    ∃ (A : Option Addr) (c : Nat) (p : PI), e = .returned (.slice A 1 c) ∧ ivP p = ivOf s ∧ SI w' A 1 c [p] ∧ Below w.heap.size w w' := by
  obtain ⟨A, m, c, ys, n, he, hy, hn, _, hsi, hb⟩ := h
  have hn' := hn.unique hs fun a _ => Iff.rfl
  subst hn'
  have hl := congrArg List.length hy
  simp only [List.length_map, List.length_cons, List.length_nil] at hl
  obtain ⟨p, rfl⟩ := List.length_eq_one_iff.1 hl
  have hm := hsi.sr.ln
  simp only [List.length_cons, List.length_nil] at hm
  subst hm
  refine ⟨A, c, p, he, ?_, hsi, hb⟩
  simpa using hy

set_option maxRecDepth 100000 in
set_option maxHeartbeats 4000000 in
theorem of_eq (x : Val) (a : VC) (PA QA : Option Addr) (pn pc qn qc : Nat) (l : List ByteArray) (w : World) (hT : Tabs w) (ha : RW w a x) (hx : validV x = true) (h6 : a.k ≠ 6) (h2 : a.k ≠ 2) (hp : ST w PA pn pc l) (hq : ST w QA qn qc l) (hs : sameP l l = true) :
    Calls Tryz.prog 22 #[predV 2 PA pn pc a, .slice QA qn qc] w (OneOk (ptIv x) true w) := by
  have HT := Lib.hid hT
  have HX := Lib.hid ha
  have HV := Lib.hid hx
  have HE := Lib.hid (equal_any l l PA QA pn pc qn qc)
  rw [hs] at HE
  have HP := Lib.hid hp
  have HQ := Lib.hid hq
  have k6 : (a.k != 6) = true := by simpa using h6
  have k2 : (a.k != 2) = true := by simpa using h2
  have B0 : Hid (Blk (w.alloc (Obj.cells (predA 2 PA pn pc a) 38)) w.heap.size 38 (predA 2 PA pn pc a)) := Blk.new_at rfl
  have BE := Lib.hid ((Below.refl w.heap.size w).alloc (Nat.le_refl _) (Obj.cells (predA 2 PA pn pc a) 38))
  clear hT ha hx hp hq hs h6 h2
  go_enter Tryz.func22, Tryz.ntmps22
  go_upto_region 1 with fail
  change Code.wp _ _ _ _ (w.alloc (Obj.cells (predA 2 PA pn pc a) 38))
  generalize w.alloc (Obj.cells (predA 2 PA pn pc a) 38) = wa at *
  have p0 := B0.out.cell 0
  have p1 := B0.out.cell 1
  have p2 := B0.out.cell 2
  have p3 := B0.out.cell 3
  have p4 := B0.out.cell 4
  have p5 := B0.out.cell 5
  have p6 := B0.out.cell 6
  simp at p0 p1 p2 p3 p4 p5 p6
  go_wp2_with fail
  refine (HE.out wa (HP.out.step BE.out) (HQ.out.step BE.out)).mono ?_
  rintro e w1 ⟨rfl, hb⟩
  have C0 := Lib.hid (B0.out.step hb)
  have CE := Lib.hid (BE.out.step' hb)
  clear hb B0 BE HE HP HQ p0 p1 p2 p3 p4 p5 p6
  have p0 := C0.out.cell 0
  have p1 := C0.out.cell 1
  have p2 := C0.out.cell 2
  have p3 := C0.out.cell 3
  have p4 := C0.out.cell 4
  have p5 := C0.out.cell 5
  have p6 := C0.out.cell 6
  simp at p0 p1 p2 p3 p4 p5 p6
  go_upto_region 11 with fail
  have B := Lib.hid ((Below.refl w1.heap.size w1).drewN 1)
  have KS : Hid (∀ w', Below w1.heap.size w1 w' → w'.cell? ⟨w.heap.size, 2, none⟩ = some (.int .i64 a.k) ∧ w'.cell? ⟨w.heap.size, 3, none⟩ = some (.int .i64 a.n) ∧ w'.cell? ⟨w.heap.size, 4, none⟩ = some (.string a.t) ∧ w'.cell? ⟨w.heap.size, 5, none⟩ = some (.slice a.LA a.ln a.lc) ∧ w'.cell? ⟨w.heap.size, 6, none⟩ = some (.slice a.DA a.dn a.dc)) := Lib.hid fun w' hb => ⟨(hb.cell (p := ⟨w.heap.size, 2, none⟩) C0.out.lt).trans p2, (hb.cell (p := ⟨w.heap.size, 3, none⟩) C0.out.lt).trans p3, (hb.cell (p := ⟨w.heap.size, 4, none⟩) C0.out.lt).trans p4, (hb.cell (p := ⟨w.heap.size, 5, none⟩) C0.out.lt).trans p5, (hb.cell (p := ⟨w.heap.size, 6, none⟩) C0.out.lt).trans p6⟩
  clear p0 p1 p2 p3 p4 p5 p6
  go_region_held3 (fun w' => w'.cell? ⟨w.heap.size, 2, none⟩ = some (.int .i64 a.k) ∧ w'.cell? ⟨w.heap.size, 3, none⟩ = some (.int .i64 a.n) ∧ w'.cell? ⟨w.heap.size, 4, none⟩ = some (.string a.t) ∧ w'.cell? ⟨w.heap.size, 5, none⟩ = some (.slice a.LA a.ln a.lc) ∧ w'.cell? ⟨w.heap.size, 6, none⟩ = some (.slice a.DA a.dn a.dc))
    (first | exact KS.out _ B.out | exact KS.out _ (B.out.alloc B.out.size _) | ((try dsimp only); assumption) | go_keep)
    ((go_at_call 59; refine (points_any [(a, x)] _ 1 1 _ (HT.out.step (CE.out.step' (B.out.alloc B.out.size _))) (sl_one (Blk.new_at rfl) (HX.out.step (CE.out.step' (B.out.alloc B.out.size _)))) (by omega)).mono ?_; rintro e3 w3 hno; obtain ⟨A3, c3, p3, rfl, hp3, hsi, hb⟩ := norm_one hno (pt_nf HV.out); replace B := Lib.hid ((B.out.alloc B.out.size _).step' hb); have HS3 := Lib.hid hsi; have HP3 := Lib.hid hp3; clear hb hsi hp3 hno))
  all_goals
    go_wp2_with fail
    go_ret2
    exact ⟨A3, c3, p3, rfl, HP3.out, HS3.out, CE.out.step' B.out⟩

end Go.Proofs.YtfkapannahcjiaaGreatDoor


