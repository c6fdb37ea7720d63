/- Parts of the proof, joined: ValTake, ShOf. -/
import Derived.Test.YtblepmmibhphhaaGreatDoorRn2
import Derived.Test.YtblepmmibhphhaaGreatDoorRn10
import Derived.Test.YtblepmmibhphhaaGreatDoorRn11
/- An operation of a region, by its place. -/
namespace Go.Proofs.YtblepmmibhphhaaGreatDoor
open Go.RowKit
theorem take_at {l rest : List Oper} {i : Nat} {o : Oper} (h : l.drop i = o :: rest) : l.toArray[i]? = some o := by
  have := congrArg List.head? h
  rw [List.head?_drop] at this
  simpa using this
end Go.Proofs.YtblepmmibhphhaaGreatDoor


/- bounds.Of and shardkey.Ranges at the two predicates of the first checks. Printed by gen_shof.py. -/
namespace Go.Proofs.YtblepmmibhphhaaGreatDoor
open Go.RowKit

abbrev predA (op : Int) (PA : Option Addr) (pn pc : Nat) (a : VC) : Array Value := #[.int .i64 op, .slice PA pn pc, .int .i64 a.k, .int .i64 a.n, .string a.t, .slice a.LA a.ln a.lc, .slice a.DA a.dn a.dc, .slice none 0 0, .int .i64 0, .int .i64 0, .int .i64 0, .slice none 0 0, .int .i64 0, .int .i64 0, .slice none 0 0, .string ByteArray.empty, .slice none 0 0, .int .i64 0, .int .i64 0, .string ByteArray.empty, .slice none 0 0, .slice none 0 0, .int .i64 0, .slice none 0 0, .slice none 0 0]
abbrev predV (op : Int) (PA : Option Addr) (pn pc : Nat) (a : VC) : Value := .agg (predA op PA pn pc a)

theorem pt_nf {x : Val} (h : validV x = true) : IsNF (fun a => inS cmC a (spansL [ptIv x])) [((x, false), (x, true))] := by
  have hne : (ptIv x).ne = true := by rw [pt_ne]; exact h
  have e : spansL [ptIv x] = [((x, false), (x, true))] := by unfold spansL; rw [List.filter_cons_of_pos hne]; rfl
  refine ⟨⟨fun s hs => ?_, by simp⟩, fun a => by rw [e]⟩
  rw [← e] at hs
  exact spansL_ne s hs
/-- one interval is handed back -/
def OneOk (q : Iv) (b : Bool) (w : World) (e : Ending) (w' : World) : Prop :=
  ∃ (A : Option Addr) (c : Nat) (p : PI), e = .returned (.tuple #[.slice A 1 c, .bool b]) ∧ ivP p = q ∧ SI w' A 1 c [p] ∧ Below w.heap.size w w'
theorem norm_one {S : Cut → Prop} {s : Cut × Cut} {k : Nat} {w : World} {e : Ending} {w' : World} (h : NormOk S k w e w') (hs : IsNF S [s]) :
    ∃ (A : Option Addr) (c : Nat) (p : PI), e = .returned (.slice A 1 c) ∧ ivP p = ivOf s ∧ SI w' A 1 c [p] ∧ Below w.heap.size w w' := by
  obtain ⟨A, m, c, ys, n, he, hy, hn, _, hsi, hb⟩ := h
  have hn' := hn.unique hs fun a _ => Iff.rfl
  subst hn'
  have hl := congrArg List.length hy
  simp only [List.length_map, List.length_cons, List.length_nil] at hl
  obtain ⟨p, rfl⟩ := List.length_eq_one_iff.1 hl
  have hm := hsi.sr.ln
  simp only [List.length_cons, List.length_nil] at hm
  subst hm
  refine ⟨A, c, p, he, ?_, hsi, hb⟩
  simpa using hy

set_option maxRecDepth 100000 in
set_option maxHeartbeats 4000000 in
theorem of_eq (x : Val) (a : VC) (PA QA : Option Addr) (pn pc qn qc : Nat) (l : List ByteArray) (w : World) (hT : Tabs w) (ha : RW w a x) (hx : validV x = true) (h6 : a.k ≠ 6) (h2 : a.k ≠ 2) (hp : ST w PA pn pc l) (hq : ST w QA qn qc l) (hs : sameP l l = true) :
    Calls Tryz.prog 71 #[predV 2 PA pn pc a, .slice QA qn qc] w (OneOk (ptIv x) true w) := by
  have HT := Lib.hid hT
  have HX := Lib.hid ha
  have HV := Lib.hid hx
  have HE := Lib.hid (equal_any l l PA QA pn pc qn qc)
  rw [hs] at HE
  have HP := Lib.hid hp
  have HQ := Lib.hid hq
  have k6 : (a.k != 6) = true := by simpa using h6
  have k2 : (a.k != 2) = true := by simpa using h2
  have B0 : Hid (Blk (w.alloc (Obj.cells (predA 2 PA pn pc a) 81)) w.heap.size 81 (predA 2 PA pn pc a)) := Blk.new_at rfl
  have BE := Lib.hid ((Below.refl w.heap.size w).alloc (Nat.le_refl _) (Obj.cells (predA 2 PA pn pc a) 81))
  clear hT ha hx hp hq hs h6 h2
  go_enter Tryz.func71, Tryz.ntmps71
  go_upto_region 1 with fail
  change Code.wp _ _ _ _ (w.alloc (Obj.cells (predA 2 PA pn pc a) 81))
  generalize w.alloc (Obj.cells (predA 2 PA pn pc a) 81) = wa at *
  have p0 := B0.out.cell 0
  have p1 := B0.out.cell 1
  have p2 := B0.out.cell 2
  have p3 := B0.out.cell 3
  have p4 := B0.out.cell 4
  have p5 := B0.out.cell 5
  have p6 := B0.out.cell 6
  simp at p0 p1 p2 p3 p4 p5 p6
  go_wp2_with fail
  refine (HE.out wa (HP.out.step BE.out) (HQ.out.step BE.out)).mono ?_
  rintro e w1 ⟨rfl, hb⟩
  have C0 := Lib.hid (B0.out.step hb)
  have CE := Lib.hid (BE.out.step' hb)
  clear hb B0 BE HE HP HQ p0 p1 p2 p3 p4 p5 p6
  have p0 := C0.out.cell 0
  have p1 := C0.out.cell 1
  have p2 := C0.out.cell 2
  have p3 := C0.out.cell 3
  have p4 := C0.out.cell 4
  have p5 := C0.out.cell 5
  have p6 := C0.out.cell 6
  simp at p0 p1 p2 p3 p4 p5 p6
  go_upto_region 11 with fail
  have B := Lib.hid ((Below.refl w1.heap.size w1).drewN 1)
  have KS : Hid (∀ w', Below w1.heap.size w1 w' → w'.cell? ⟨w.heap.size, 2, none⟩ = some (.int .i64 a.k) ∧ w'.cell? ⟨w.heap.size, 3, none⟩ = some (.int .i64 a.n) ∧ w'.cell? ⟨w.heap.size, 4, none⟩ = some (.string a.t) ∧ w'.cell? ⟨w.heap.size, 5, none⟩ = some (.slice a.LA a.ln a.lc) ∧ w'.cell? ⟨w.heap.size, 6, none⟩ = some (.slice a.DA a.dn a.dc)) := Lib.hid fun w' hb => ⟨(hb.cell (p := ⟨w.heap.size, 2, none⟩) C0.out.lt).trans p2, (hb.cell (p := ⟨w.heap.size, 3, none⟩) C0.out.lt).trans p3, (hb.cell (p := ⟨w.heap.size, 4, none⟩) C0.out.lt).trans p4, (hb.cell (p := ⟨w.heap.size, 5, none⟩) C0.out.lt).trans p5, (hb.cell (p := ⟨w.heap.size, 6, none⟩) C0.out.lt).trans p6⟩
  clear p0 p1 p2 p3 p4 p5 p6
  go_region_held3 (fun w' => w'.cell? ⟨w.heap.size, 2, none⟩ = some (.int .i64 a.k) ∧ w'.cell? ⟨w.heap.size, 3, none⟩ = some (.int .i64 a.n) ∧ w'.cell? ⟨w.heap.size, 4, none⟩ = some (.string a.t) ∧ w'.cell? ⟨w.heap.size, 5, none⟩ = some (.slice a.LA a.ln a.lc) ∧ w'.cell? ⟨w.heap.size, 6, none⟩ = some (.slice a.DA a.dn a.dc))
    (first | exact KS.out _ B.out | exact KS.out _ (B.out.alloc B.out.size _) | ((try dsimp only); assumption) | go_keep)
    ((go_at_call 105; refine (points_any [(a, x)] _ 1 1 _ (HT.out.step (CE.out.step' (B.out.alloc B.out.size _))) (sl_one (Blk.new_at rfl) (HX.out.step (CE.out.step' (B.out.alloc B.out.size _)))) (by omega)).mono ?_; rintro e3 w3 hno; obtain ⟨A3, c3, p3, rfl, hp3, hsi, hb⟩ := norm_one hno (pt_nf HV.out); replace B := Lib.hid ((B.out.alloc B.out.size _).step' hb); have HS3 := Lib.hid hsi; have HP3 := Lib.hid hp3; clear hb hsi hp3 hno))
  all_goals
    go_wp2_with fail
    go_ret2
    exact ⟨A3, c3, p3, rfl, HP3.out, HS3.out, CE.out.step' B.out⟩

set_option maxRecDepth 100000 in
set_option maxHeartbeats 4000000 in
theorem of_true (QA : Option Addr) (qn qc : Nat) (l : List ByteArray) (w : World) (hq : ST w QA qn qc l) (hs : sameP [] l = false) :
    Calls Tryz.prog 71 #[predV 1 none 0 0 VC.zero, .slice QA qn qc] w (OneOk allIv false w) := by
  have HE := Lib.hid (equal_any [] l none QA 0 0 qn qc)
  rw [hs] at HE
  have HQ := Lib.hid hq
  have B0 : Hid (Blk (w.alloc (Obj.cells (predA 1 none 0 0 VC.zero) 81)) w.heap.size 81 (predA 1 none 0 0 VC.zero)) := Blk.new_at rfl
  have BE := Lib.hid ((Below.refl w.heap.size w).alloc (Nat.le_refl _) (Obj.cells (predA 1 none 0 0 VC.zero) 81))
  clear hq hs
  go_enter Tryz.func71, Tryz.ntmps71
  go_upto_region 1 with fail
  change Code.wp _ _ _ _ (w.alloc (Obj.cells (predA 1 none 0 0 VC.zero) 81))
  generalize w.alloc (Obj.cells (predA 1 none 0 0 VC.zero) 81) = wa at *
  have p0 := B0.out.cell 0
  have p1 := B0.out.cell 1
  simp at p0 p1
  go_wp2_with fail
  refine (HE.out wa ⟨SR.nil, by show 0 * 16 ≤ reach; decide, by simp⟩ (HQ.out.step BE.out)).mono ?_
  rintro e w1 ⟨rfl, hb⟩
  have CE := Lib.hid (BE.out.step' hb)
  clear hb B0 BE HE HQ p0 p1
  go_wp2_with fail
  refine (all_any w1).mono ?_
  rintro e w3 hno
  obtain ⟨A3, c3, p3, rfl, hp3, hsi, hb⟩ := norm_one hno all_nf
  have HS3 := Lib.hid hsi
  have HP3 := Lib.hid hp3
  have EE := Lib.hid (CE.out.step' hb)
  clear hno hb hsi hp3
  go_wp2_with fail
  go_ret2
  exact ⟨A3, c3, p3, rfl, HP3.out, HS3.out, EE.out⟩

end Go.Proofs.YtblepmmibhphhaaGreatDoor

