/- The contract of interval.intervals. · The contracts of interval.Normal, Has, All and Points. · The contracts of interval.Points, All and Rest. · The contract of interval.Rest. -/
import Derived.Test.YtdmabhbhlnpkgaaDoorIvMergedWalk
import Derived.Test.YtdmabhbhlnpkgaaDoorIvCopyWalk
import Derived.Deep.RegionHeld3
namespace Go.RowKit
theorem Below.kc {w w' : World} (hb : Below w.heap.size w w') {a : Addr} {v : Value} (h : w.cell? a = some v) : w'.cell? a = some v := (hb.cell (World.block_lt_of_cell? w a h)).trans h
end Go.RowKit
namespace Go.Proofs.YtdmabhbhlnpkgaaDoor
open Go.RowKit

/-- a slice of intervals is handed back -/
def IvOk (l : List Iv) (w : World) (e : Ending) (w' : World) : Prop :=
  ∃ (A : Option Addr) (m c : Nat) (ys : List PI), e = .returned (.slice A m c) ∧ ys.map ivP = l ∧ SI w' A m c ys ∧ Below w.heap.size w w'
def apI (v : Value) (w : World) (p : PI) : Prop := RV (fun b => 0 ≤ b ∧ v.ownBlock ≠ some b) w p.1.1.1 p.1.1.2 ∧ RV (fun b => 0 ≤ b ∧ v.ownBlock ≠ some b) w p.1.2.1 p.1.2.2
/-- the loop of intervals -/
structure IvL (w : World) (xs : List PS) (i : Nat) (v : Value) (ys : List PI) (wr : World) : Prop where
  own : wr.ownsRow w.heap.size 37 12 v i (flat recI ys)
  eq : ys.map ivP = (xs.take i).map fun x => ivOf (spP x)
  el : ∀ y ∈ ys, apI v wr y
  bel : Below w.heap.size w wr
theorem IvL.step {w : World} {xs : List PS} {i : Nat} {v : Value} {ys : List PI} {wr w' : World} (h : IvL w xs i v ys wr) (hb : Below wr.heap.size wr w') : IvL w xs i v ys w' :=
  ⟨own_step h.own hb, h.eq, fun y hy => ⟨(h.el y hy).1.step hb, (h.el y hy).2.step hb⟩, h.bel.step' hb⟩
theorem IvL.next {w : World} {xs : List PS} {i : Nat} {v v' : Value} {ys : List PI} {w4 w5 : World} {o : Obj} {p : PS} {q : PI} (h : IvL w xs i v ys w4) (hp : xs[i]? = some p) (hq : ivP q = ivOf (spP p)) (hel : apI v w4 q)
    (hg : (w4.alloc o).grownBy w5 v.ownBlock) (hat : v'.ownBlock = v.ownBlock ∨ v'.ownBlock = some (w4.alloc o).heap.size) (ho : w5.ownsRow w.heap.size 37 12 v' (i + 1) (flat recI ys ++ recI q)) : IvL w xs (i + 1) v' (ys ++ [q]) w5 := by
  refine ⟨by rw [flat_snoc]; exact ho, ?_, fun y hy => ?_, (h.bel.alloc h.bel.size o).grown hg (by have := h.bel.size; simp; omega) (own_ge h.own)⟩
  · rw [take_snoc' hp, List.map_append, List.map_append, h.eq, List.map_singleton, List.map_singleton, hq]
  · have hy' : apI v w4 y := by
      rcases List.mem_append.1 hy with hy | hy
      · exact h.el y hy
      · simp at hy; subst hy; exact hel
    exact ⟨rv_grown hy'.1 hg hat, rv_grown hy'.2 hg hat⟩
theorem le_alloc {a : Nat} {w : World} (h : a ≤ w.heap.size) (o : Obj) : a ≤ (w.alloc o).heap.size := by simp; omega
theorem ivq (p : PS) (ca cb : VC) : ivP (((ca, p.1.1.2), (cb, p.2.1.2)), (!p.1.2, p.2.2)) = ivOf (spP p) := rfl

set_option maxRecDepth 100000 in
set_option maxHeartbeats 4000000 in
theorem intervals_any (xs : List PS) (A : Option Addr) (n c : Nat) (w : World) (h : SS w A n c xs) (hn : n ≤ 100000) :
    Calls Tryd.prog 33 #[.slice A n c] w (IvOk (xs.map fun x => ivOf (spP x)) w) := by
  obtain ⟨j0, hj0, hy0, hy1, hy2⟩ := info_parts info_interval
  have H := Lib.hid h
  have HL := Lib.hid h.sr.ln
  clear h
  go_enter Tryd.func33, Tryd.ntmps33
  go_wp2_with fail
  go_loopw [3, 8] (fun v3 v8 wr => ∃ (i : Nat) (ys : List PI), i ≤ n ∧ v8 = .int .i64 i ∧ IvL w xs i v3 ys wr) (fun _ v8 _ => n - (intOf v8).toNat)
  case atStart => exact ⟨0, [], Nat.zero_le _, rfl, ⟨own_nil _ _ _ _, rfl, by simp, Below.refl _ _⟩⟩
  case round =>
    obtain ⟨i, ys, hi, rfl, I⟩ := hrel
    have J := Lib.hid I
    by_cases hlt : i < n
    · obtain ⟨p, hp⟩ : ∃ p, xs[i]? = some p := ⟨_, List.getElem?_eq_getElem (by have := HL.out; omega)⟩
      obtain ⟨b, off, rfl, hbl, hat, hok⟩ := H.out.at hp
      have HP := Lib.hid hp
      have HPk := Lib.hid hok
      have hbr : b < wr.heap.size := by have := I.bel.size; omega
      obtain ⟨⟨⟨p0, p1, p2, p3, p4⟩, p5⟩, ⟨⟨q0, q1, q2, q3, q4⟩, q5⟩⟩ := hat.keep (I.bel.block b hbl)
      clear hp hat hok I hbl
      go_upto_region 5 with fail
      have hs3 : u3.ownBlock ≠ some wr.heap.size := fun e => absurd (own_lt J.out.own e) (by omega)
      have KJ := J.out.step ((Below.refl wr.heap.size wr).alloc (Nat.le_refl _) (Obj.cells (arrS p) 54))
      have KB : Blk (wr.alloc (Obj.cells (arrS p) 54)) wr.heap.size 54 (arrS p) := Blk.new_at rfl
      change (Code.region 5 _ _).wp _ _ _ (wr.alloc (Obj.cells (arrS p) 54))
      generalize wr.alloc (Obj.cells (arrS p) 54) = wa at *
      generalize wr.heap.size = ga at *
      have JA := Lib.hid KJ
      have JB := Lib.hid KB
      clear p0 p1 p2 p3 p4 p5 q0 q1 q2 q3 q4 q5 J KJ KB hbr
      obtain ⟨⟨⟨p0, p1, p2, p3, p4⟩, p5⟩, ⟨⟨q0, q1, q2, q3, q4⟩, q5⟩⟩ := SAt.of_blk JB.out
      have B := Lib.hid ((Below.refl wa.heap.size wa).drewN 1)
      have RP := Lib.hid (HPk.out.step JA.out.bel)
      have KS : Hid (∀ w', Below wa.heap.size wa w' → w'.cell? ⟨ga, 0, none⟩ = some (.int .i64 p.1.1.1.k) ∧ w'.cell? ⟨ga, 1, none⟩ = some (.int .i64 p.1.1.1.n) ∧ w'.cell? ⟨ga, 2, none⟩ = some (.string p.1.1.1.t) ∧ w'.cell? ⟨ga, 3, none⟩ = some (.slice p.1.1.1.LA p.1.1.1.ln p.1.1.1.lc) ∧ w'.cell? ⟨ga, 4, none⟩ = some (.slice p.1.1.1.DA p.1.1.1.dn p.1.1.1.dc) ∧ w'.cell? ⟨ga, 5, none⟩ = some (.bool p.1.2) ∧ w'.cell? ⟨ga, 6, none⟩ = some (.int .i64 p.2.1.1.k) ∧ w'.cell? ⟨ga, 7, none⟩ = some (.int .i64 p.2.1.1.n) ∧ w'.cell? ⟨ga, 8, none⟩ = some (.string p.2.1.1.t) ∧ w'.cell? ⟨ga, 9, none⟩ = some (.slice p.2.1.1.LA p.2.1.1.ln p.2.1.1.lc) ∧ w'.cell? ⟨ga, 10, none⟩ = some (.slice p.2.1.1.DA p.2.1.1.dn p.2.1.1.dc) ∧ w'.cell? ⟨ga, 11, none⟩ = some (.bool p.2.2)) := Lib.hid fun w' hb => ⟨hb.kc p0, hb.kc p1, hb.kc p2, hb.kc p3, hb.kc p4, hb.kc p5, hb.kc q0, hb.kc q1, hb.kc q2, hb.kc q3, hb.kc q4, hb.kc q5⟩
      have F1 : Hid (i + 1 ≤ maxLen) := by unfold Hid maxLen; omega
      have F2 : Hid ((i + 1) * 168 ≤ 140737488355328) := by unfold Hid; omega
      have KG : Hid (∀ w' w'' o, Below wa.heap.size wa w' → (w'.alloc o).grownBy w'' u3.ownBlock → w''.cell? ⟨ga, 0, none⟩ = some (.int .i64 p.1.1.1.k) ∧ w''.cell? ⟨ga, 1, none⟩ = some (.int .i64 p.1.1.1.n) ∧ w''.cell? ⟨ga, 2, none⟩ = some (.string p.1.1.1.t) ∧ w''.cell? ⟨ga, 3, none⟩ = some (.slice p.1.1.1.LA p.1.1.1.ln p.1.1.1.lc) ∧ w''.cell? ⟨ga, 4, none⟩ = some (.slice p.1.1.1.DA p.1.1.1.dn p.1.1.1.dc) ∧ w''.cell? ⟨ga, 5, none⟩ = some (.bool p.1.2) ∧ w''.cell? ⟨ga, 6, none⟩ = some (.int .i64 p.2.1.1.k) ∧ w''.cell? ⟨ga, 7, none⟩ = some (.int .i64 p.2.1.1.n) ∧ w''.cell? ⟨ga, 8, none⟩ = some (.string p.2.1.1.t) ∧ w''.cell? ⟨ga, 9, none⟩ = some (.slice p.2.1.1.LA p.2.1.1.ln p.2.1.1.lc) ∧ w''.cell? ⟨ga, 10, none⟩ = some (.slice p.2.1.1.DA p.2.1.1.dn p.2.1.1.dc) ∧ w''.cell? ⟨ga, 11, none⟩ = some (.bool p.2.2)) := Lib.hid fun w' w'' o hb hg => ⟨gr_cell hg (hb.kc p0) hs3, gr_cell hg (hb.kc p1) hs3, gr_cell hg (hb.kc p2) hs3, gr_cell hg (hb.kc p3) hs3, gr_cell hg (hb.kc p4) hs3, gr_cell hg (hb.kc p5) hs3, gr_cell hg (hb.kc q0) hs3, gr_cell hg (hb.kc q1) hs3, gr_cell hg (hb.kc q2) hs3, gr_cell hg (hb.kc q3) hs3, gr_cell hg (hb.kc q4) hs3, gr_cell hg (hb.kc q5) hs3⟩
      clear p0 p1 p2 p3 p4 p5 q0 q1 q2 q3 q4 q5
      have tok1 : True := trivial
      go_region_held3 (fun w' => w'.cell? ⟨ga, 0, none⟩ = some (.int .i64 p.1.1.1.k) ∧ w'.cell? ⟨ga, 1, none⟩ = some (.int .i64 p.1.1.1.n) ∧ w'.cell? ⟨ga, 2, none⟩ = some (.string p.1.1.1.t) ∧ w'.cell? ⟨ga, 3, none⟩ = some (.slice p.1.1.1.LA p.1.1.1.ln p.1.1.1.lc) ∧ w'.cell? ⟨ga, 4, none⟩ = some (.slice p.1.1.1.DA p.1.1.1.dn p.1.1.1.dc) ∧ w'.cell? ⟨ga, 5, none⟩ = some (.bool p.1.2) ∧ w'.cell? ⟨ga, 6, none⟩ = some (.int .i64 p.2.1.1.k) ∧ w'.cell? ⟨ga, 7, none⟩ = some (.int .i64 p.2.1.1.n) ∧ w'.cell? ⟨ga, 8, none⟩ = some (.string p.2.1.1.t) ∧ w'.cell? ⟨ga, 9, none⟩ = some (.slice p.2.1.1.LA p.2.1.1.ln p.2.1.1.lc) ∧ w'.cell? ⟨ga, 10, none⟩ = some (.slice p.2.1.1.DA p.2.1.1.dn p.2.1.1.dc) ∧ w'.cell? ⟨ga, 11, none⟩ = some (.bool p.2.2))
        (first | exact KS.out _ B.out | exact KS.out _ (B.out.alloc B.out.size _) | ((try dsimp only); assumption) | go_keep)
        (first
          | (refine step_append_any _ rfl (.tmp 12) (.tmp 29) 22 rfl w.heap.size 37 j0 (aggI (((VC.zero, Val.zero), (VC.zero, Val.zero)), (false, false))) 12 168 Tryd.underlying22 hj0 hy0 hy1 hy2 rfl (by decide) u3 i (flat recI ys) (by simp [Act.eval]) ((own_step JA.out.own B.out).alloc _) (w4.heap.size + 1) (some ⟨w4.heap.size, 0, none⟩) 1 1 (recI (((ca, p.1.1.2), (cb, p.2.1.2)), (!p.1.2, p.2.2))) (by simp [Act.eval]) ⟨rfl, fun _ => ⟨_, rfl, Nat.lt_succ_self _, news_at _ _ _⟩⟩ (recI_one _) F1.out F2.out (le_alloc (JA.out.step B.out).bel.size _) ?_; intro v' w5 hown hgr hat; have hs := KG.out _ _ _ B.out hgr)
          | (go_at_call 50; have _t := tok1; refine (copy_any p.1.1.2 p.1.1.1 _ (RP.out.1.step B.out)).mono ?_; rintro e3 w3 ⟨ca, rfl, hra, hb⟩; replace B := Lib.hid (B.out.step' hb); have RA := Lib.hid hra; have B3 := B; clear hb hra tok1 _t)
          | (go_at_call 50; refine (copy_any p.2.1.2 p.2.1.1 _ (RP.out.2.step B.out)).mono ?_; rintro e3 w4 ⟨cb, rfl, hrb, hb⟩; replace RA := Lib.hid (RA.out.step hb); replace B := Lib.hid (B.out.step' hb); have RB := Lib.hid hrb; clear hb hrb))
      all_goals
        have HI := Lib.hid ((JA.out.step B.out).next HP.out (ivq p ca cb) ⟨RA.out.mono fun q hq => ⟨Nat.zero_le _, fun e => by have := own_lt JA.out.own e; have hq' : wa.heap.size ≤ q := hq; omega⟩, RB.out.mono fun q hq => ⟨Nat.zero_le _, fun e => by have := own_lt (own_step JA.out.own B3.out) e; omega⟩⟩ hgr hat hown)
        clear hown hgr hat KS KG hs hs3 JA JB RP RA RB B B3
        go_wp2_with fail
        go_roundw
        case rel => exact ⟨i + 1, _, by omega, by go_num, HI.out⟩
        case measure => simp [intOf]; omega
    · clear I
      go_wp2_with fail
      go_ret
      have hyl : ys.length = i := by have := congrArg List.length J.out.eq; have := HL.out; simp only [List.length_map, List.length_take] at *; omega
      obtain ⟨A', c', e, hs⟩ := SI.of_own J.out.own hyl (by unfold reach; omega) (fun y hy => ⟨(J.out.el y hy).1.mono fun _ _ => trivial, (J.out.el y hy).2.mono fun _ _ => trivial⟩)
      exact ⟨A', _, c', ys, by rw [← e]; rfl, by rw [J.out.eq, List.take_of_length_le (by have := HL.out; omega)], hs, J.out.bel⟩

end Go.Proofs.YtdmabhbhlnpkgaaDoor

namespace Go.Proofs.YtdmabhbhlnpkgaaDoor
open Go.RowKit

/-- a normal form is handed back -/
def NormOk (S : Cut → Prop) (k : Nat) (w : World) (e : Ending) (w' : World) : Prop :=
  ∃ (A : Option Addr) (m c : Nat) (ys : List PI) (n : List (Cut × Cut)), e = .returned (.slice A m c) ∧ ys.map ivP = n.map ivOf ∧ IsNF S n ∧ m ≤ k ∧ SI w' A m c ys ∧ Below w.heap.size w w'

theorem span_ne {is : List PI} {xs : List PS} (h : xs.map spP = spansL (is.map ivP)) : ∀ x ∈ xs, cmC (spP x).1 (spP x).2 < 0 ∧ VC1 (spP x).1 ∧ VC1 (spP x).2 := by
  intro x hx
  have : spP x ∈ spansL (is.map ivP) := by rw [← h]; exact List.mem_map_of_mem hx
  exact spansL_ne _ this

set_option maxHeartbeats 1000000 in
theorem normal_any (is : List PI) (A : Option Addr) (n c : Nat) (w : World) (hT : Tabs w) (h : SI w A n c is) (hn : n ≤ 100000) :
    Calls Tryd.prog 13 #[.slice A n c] w (NormOk (fun a => inS cmC a (spansL (is.map ivP))) n w) := by
  have HT := Lib.hid hT
  have H := Lib.hid h
  have HL := Lib.hid h.sr.ln
  clear hT h
  go_enter Tryd.func13, Tryd.ntmps13
  go_wp2_with fail
  refine (spans_any is A n c _ HT.out H.out hn).mono ?_
  rintro e w1 ⟨A1, m1, c1, xs, rfl, hxs, _, hm1, hss, hb1⟩
  have HX := Lib.hid hxs
  have HS1 := Lib.hid hss
  have HX1 := Lib.hid hss.sr.ln
  have HB1 := Lib.hid hb1
  have HM1 : Hid (m1 ≤ n) := by have := HL.out; unfold Hid; omega
  have hm1n : m1 ≤ 100000 := by have := HM1.out; omega
  clear hxs hss hb1 hm1
  go_wp2_with fail
  refine (merged_any xs A1 m1 c1 _ HS1.out hm1n).mono ?_
  rintro e w2 ⟨A2, m2, c2, ys, rfl, ⟨S, hS, hys⟩, _, _, hss2, hm2, hb2⟩
  have HY := Lib.hid (hS.merge (span_ne HX.out))
  rw [← hys] at HY
  have HS2 := Lib.hid hss2
  have HB2 := Lib.hid (HB1.out.step' hb2)
  have HM2 : Hid (m2 ≤ n) := by have := HM1.out; have := HX1.out; unfold Hid; omega
  have hm2n : m2 ≤ 100000 := by have := HM2.out; omega
  have HY2 := Lib.hid hss2.sr.ln
  clear hS hys hss2 hm2 hb2
  go_wp2_with fail
  refine (intervals_any ys A2 m2 c2 _ HS2.out hm2n).mono ?_
  rintro e w3 ⟨A3, m3, c3, zs, rfl, hzs, hsi, hb3⟩
  have HZ := Lib.hid hzs
  have HS3 := Lib.hid hsi
  have HB3 := Lib.hid (HB2.out.step' hb3)
  have HZ3 := Lib.hid hsi.sr.ln
  clear hzs hsi hb3
  go_wp2_with fail
  go_ret
  refine ⟨A3, m3, c3, zs, ys.map spP, rfl, by rw [HZ.out, List.map_map]; rfl, ?_, ?_, HS3.out, HB3.out⟩
  · have := HY.out.1
    rw [HX.out] at this
    exact this
  · have h1 := congrArg List.length HZ.out
    simp only [List.length_map] at h1
    have := HZ3.out; have := HY2.out; have := HM2.out
    omega

/-- a value is in one of the intervals -/
noncomputable def hasV (l : List Iv) (v : Val) : Bool := @decide (validV v = true ∧ inS cmC (v, false) (spansL l)) (Classical.propDecidable _)
theorem hasV_true {l : List Iv} {v : Val} (h1 : validV v = true) (h2 : inS cmC (v, false) (spansL l)) : hasV l v = true := by unfold hasV; exact @decide_eq_true _ (Classical.propDecidable _) ⟨h1, h2⟩
theorem hasV_false {l : List Iv} {v : Val} (h : ¬ (validV v = true ∧ inS cmC (v, false) (spansL l))) : hasV l v = false := by unfold hasV; exact @decide_eq_false _ (Classical.propDecidable _) h
theorem hasV_iff {l : List Iv} {v : Val} : hasV l v = true ↔ (validV v = true ∧ inS cmC (v, false) (spansL l)) := by unfold hasV; exact @decide_eq_true_iff _ (Classical.propDecidable _)
theorem cut_after {v : Val} {t : Cut} : cmC (v, true) t ≤ 0 ↔ cmC (v, false) t < 0 := by
  by_cases h : cmpV v t.1 = 0
  · rw [cmC_zero (a := (v, true)) h, cmC_zero (a := (v, false)) h]
    show cmB true t.2 ≤ 0 ↔ cmB false t.2 < 0
    cases t.2 <;> decide
  · rw [cmC_ne (a := (v, true)) h, cmC_ne (a := (v, false)) h]
    show cmpV v t.1 ≤ 0 ↔ cmpV v t.1 < 0
    omega

/-- the boxes of Has -/
structure HaB (w : World) (c : VC) (w2 wr : World) : Prop where
  b0 : Blk wr w.heap.size 30 c.arr
  bel : Below w2.heap.size w2 wr
theorem HaB.step {w w2 wr w' : World} {c : VC} (h : HaB w c w2 wr) (hb : Below wr.heap.size wr w') : HaB w c w2 w' := ⟨h.b0.step hb, h.bel.step' hb⟩

set_option maxRecDepth 100000 in
set_option maxHeartbeats 2000000 in
theorem has_any (is : List PI) (A : Option Addr) (n c : Nat) (v : Val) (cv : VC) (w : World) (hT : Tabs w) (h : SI w A n c is) (hn : n ≤ 100000) (hv : RW w cv v) :
    Calls Tryd.prog 18 #[.slice A n c, cv.val] w fun e w' => e = .returned (.bool (hasV (is.map ivP) v)) ∧ Below w.heap.size w w' := by
  have HT := Lib.hid hT
  have H := Lib.hid h
  have HL := Lib.hid h.sr.ln
  have HV := Lib.hid hv
  have A0 := Lib.hid ((Below.refl w.heap.size w).alloc (Nat.le_refl _) (Obj.cells cv.arr 30))
  have B0 : Hid (Blk (w.alloc (Obj.cells cv.arr 30)) w.heap.size 30 cv.arr) := Blk.new_at rfl
  clear hT h hv
  go_enter Tryd.func18, Tryd.ntmps18
  go_wp2_with fail
  refine (valid_any v cv _ (HT.out.step A0.out) (HV.out.step A0.out)).mono ?_
  rintro e w1 ⟨rfl, hb1⟩
  have A1 := Lib.hid (A0.out.step' hb1)
  have B1 := Lib.hid (B0.out.step hb1)
  clear hb1 A0 B0
  cases hvv : validV v
  · have HF := Lib.hid (hasV_false (l := is.map ivP) (v := v) (by rw [hvv]; simp))
    clear hvv
    go_wp2_with fail
    go_ret
    exact ⟨by rw [HF.out]; rfl, A1.out⟩
  have HVV := Lib.hid hvv
  clear hvv
  go_wp2_with fail
  refine (spans_any is A n c _ (HT.out.step A1.out) (H.out.step A1.out) hn).mono ?_
  rintro e w2 ⟨A2, m, c2, xs, rfl, hxs, _, hm, hss, hb2⟩
  have HX := Lib.hid hxs
  have HS := Lib.hid hss
  have HM := Lib.hid hss.sr.ln
  have A2' := Lib.hid (A1.out.step' hb2)
  have B2 := Lib.hid (B1.out.step hb2)
  have hmn : m ≤ 100000 := by have := HL.out; omega
  clear hxs hss hb2 hm A1 B1
  go_wp2_with fail
  go_loopw [13] (fun v13 wr => ∃ i : Nat, i ≤ m ∧ v13 = .int .i64 i ∧ ¬ inS cmC (v, false) ((xs.take i).map spP) ∧ HaB w cv w2 wr) (fun v13 _ => m - (intOf v13).toNat)
  case atStart => exact ⟨0, Nat.zero_le _, rfl, inS_nil _, ⟨B2.out, Below.refl _ _⟩⟩
  case round =>
    obtain ⟨i, hi, rfl, hno, I⟩ := hrel
    have J := Lib.hid I
    have HNo := Lib.hid hno
    clear hno
    by_cases hlt : i < m
    · obtain ⟨p, hp⟩ : ∃ p, xs[i]? = some p := ⟨_, List.getElem?_eq_getElem (by have := HM.out; omega)⟩
      obtain ⟨b, off, rfl, hbl, hat, hok⟩ := HS.out.at hp
      have HP := Lib.hid hp
      have HPk := Lib.hid hok
      have hbr : b < wr.heap.size := by have := I.bel.size; omega
      obtain ⟨⟨⟨p0, p1, p2, p3, p4⟩, p5⟩, ⟨⟨q0, q1, q2, q3, q4⟩, q5⟩⟩ := hat.keep (I.bel.block b hbl)
      clear hp hat hok I hbl
      go_upto_region 6 with fail
      have KJ := J.out.step ((Below.refl wr.heap.size wr).alloc (Nat.le_refl _) (Obj.cells (arrS p) 54))
      have KB : Blk (wr.alloc (Obj.cells (arrS p) 54)) wr.heap.size 54 (arrS p) := Blk.new_at rfl
      change (Code.region 6 _ _).wp _ _ _ (wr.alloc (Obj.cells (arrS p) 54))
      generalize wr.alloc (Obj.cells (arrS p) 54) = wa at *
      generalize wr.heap.size = ga at *
      have JA := Lib.hid KJ
      have JB := Lib.hid KB
      clear p0 p1 p2 p3 p4 p5 q0 q1 q2 q3 q4 q5 J KJ KB hbr
      obtain ⟨⟨⟨p0, p1, p2, p3, p4⟩, p5⟩, _⟩ := SAt.of_blk JB.out
      obtain ⟨a0, a1, a2, a3, a4⟩ := VAt.of_blk JA.out.b0
      go_wp2_with fail
      have Wb := Lib.hid (A2'.out.step' JA.out.bel)
      refine (compare_any p.1 ((cv, v), false) _ (HPk.out.step JA.out.bel).1 (HV.out.step Wb.out)).mono ?_
      rintro e w3 ⟨rfl, hb3⟩
      have J3 := Lib.hid (JA.out.step hb3)
      have K3 := Lib.hid (JB.out.step hb3)
      have W3 := Lib.hid (Wb.out.step' hb3)
      clear hb3 p0 p1 p2 p3 p4 p5 a0 a1 a2 a3 a4 JA JB Wb
      by_cases h1 : cmC (cutP p.1) (cutP ((cv, v), false)) ≤ 0
      · obtain ⟨_, ⟨⟨q0, q1, q2, q3, q4⟩, q5⟩⟩ := SAt.of_blk K3.out
        obtain ⟨a0, a1, a2, a3, a4⟩ := VAt.of_blk J3.out.b0
        go_wp2_with fail
        refine (compare_any ((cv, v), true) p.2 _ (HV.out.step W3.out) (HPk.out.step J3.out.bel).2).mono ?_
        rintro e w4 ⟨rfl, hb4⟩
        have J4 := Lib.hid (J3.out.step hb4)
        have W4 := Lib.hid (W3.out.step' hb4)
        clear hb4 q0 q1 q2 q3 q4 q5 a0 a1 a2 a3 a4 J3 W3 K3
        by_cases h2 : cmC (cutP ((cv, v), true)) (cutP p.2) ≤ 0
        · have HR := Lib.hid (hasV_true (l := is.map ivP) HVV.out (by rw [← HX.out]; exact ⟨spP p, List.mem_map_of_mem (List.mem_of_getElem? HP.out), h1, cut_after.1 h2⟩))
          go_wp2_with fail
          go_ret
          exact ⟨by rw [HR.out]; rfl, W4.out⟩
        · have HR : Hid (¬ inS cmC (v, false) ((xs.take (i + 1)).map spP)) := by
            rw [Hid, take_snoc' HP.out, List.map_append, inS_app]
            rintro (k | k)
            · exact HNo.out k
            · exact h2 (cut_after.2 (inS_one.1 k).2)
          go_wp2_with fail
          go_roundw
          case rel => exact ⟨i + 1, by omega, by go_num, HR.out, J4.out⟩
          case measure => simp [intOf]; omega
      · have HR : Hid (¬ inS cmC (v, false) ((xs.take (i + 1)).map spP)) := by
          rw [Hid, take_snoc' HP.out, List.map_append, inS_app]
          rintro (k | k)
          · exact HNo.out k
          · exact h1 (inS_one.1 k).1
        go_wp2_with fail
        go_roundw
        case rel => exact ⟨i + 1, by omega, by go_num, HR.out, J3.out⟩
        case measure => simp [intOf]; omega
    · have HF := Lib.hid (hasV_false (l := is.map ivP) (v := v) (by rintro ⟨_, k⟩; have h0 := HNo.out; rw [List.take_of_length_le (by have := HM.out; omega), HX.out] at h0; exact h0 k))
      clear I
      go_wp2_with fail
      go_ret
      exact ⟨by rw [HF.out]; rfl, A2'.out.step' J.out.bel⟩

end Go.Proofs.YtdmabhbhlnpkgaaDoor

namespace Go.Proofs.YtdmabhbhlnpkgaaDoor
open Go.RowKit

/-- the interval of one value -/
def ptIv (v : Val) : Iv := ⟨v, v, true, true⟩
theorem pt_ne (v : Val) : (ptIv v).ne = validV v := by
  unfold Iv.ne
  have : cmC (ptIv v).sp.1 (ptIv v).sp.2 < 0 := by
    rw [cmC_zero (a := (ptIv v).sp.1) (b := (ptIv v).sp.2) (cmpV_self v)]
    show cmB false true < 0
    decide
  rw [decide_eq_true this]
  show (validV v && validV v && true) = validV v
  cases validV v <;> rfl
def ptP (p : PV) : PS := ((p, false), (p, true))
/-- the loop of Points -/
structure PtI (w : World) (ps : List PV) (i : Nat) (v : Value) (xs : List PS) (wr : World) : Prop where
  own : wr.ownsRow w.heap.size 54 12 v xs.length (flat recS xs)
  eq : xs.map spP = spansL ((ps.take i).map fun p => ptIv p.2)
  le : xs.length ≤ i
  ok : ∀ x ∈ xs, okS w x
  bel : Below w.heap.size w wr
theorem PtI.step {w : World} {ps : List PV} {i : Nat} {v : Value} {xs : List PS} {wr w' : World} (h : PtI w ps i v xs wr) (hb : Below wr.heap.size wr w') : PtI w ps i v xs w' := ⟨own_step h.own hb, h.eq, h.le, h.ok, h.bel.step' hb⟩
theorem PtI.skip {w : World} {ps : List PV} {i : Nat} {v : Value} {xs : List PS} {wr : World} {p : PV} (h : PtI w ps i v xs wr) (hp : ps[i]? = some p) (hn : validV p.2 = false) : PtI w ps (i + 1) v xs wr := by
  refine ⟨h.own, ?_, by have := h.le; omega, h.ok, h.bel⟩
  rw [take_snoc' hp, List.map_append, List.map_singleton, spansL_snoc, pt_ne, hn]
  exact h.eq
theorem PtI.next {w : World} {ps : List PV} {i m : Nat} {v v' : Value} {xs : List PS} {wr w' : World} {p : PV} (h : PtI w ps i v xs wr) (hp : ps[i]? = some p) (hn : validV p.2 = true) (hok : RW w p.1 p.2) (hg : wr.grownBy w' v.ownBlock)
    (hm : m = xs.length + 1) (ho : w'.ownsRow w.heap.size 54 12 v' m (flat recS xs ++ recS (ptP p))) : PtI w ps (i + 1) v' (xs ++ [ptP p]) w' := by
  subst hm
  refine ⟨?_, ?_, by have := h.le; simp; omega, fun x hx => ?_, h.bel.grown hg h.bel.size (own_ge h.own)⟩
  · rw [flat_snoc, List.length_append]; exact ho
  · have e : spansL ((ps.take (i + 1)).map fun p => ptIv p.2) = spansL ((ps.take i).map fun p => ptIv p.2) ++ [(ptIv p.2).sp] := by
      rw [take_snoc' hp, List.map_append, List.map_singleton, spansL_snoc, pt_ne, hn]; rfl
    rw [e, List.map_append, h.eq]
    rfl
  · rcases List.mem_append.1 hx with hx | hx
    · exact h.ok x hx
    · simp at hx; subst hx; exact ⟨hok, hok⟩

set_option maxRecDepth 100000 in
set_option maxHeartbeats 2000000 in
theorem points_any (ps : List PV) (A : Option Addr) (n c : Nat) (w : World) (hT : Tabs w) (h : SL (fun _ => True) w A n c ps) (hn : n ≤ 100000) :
    Calls Tryd.prog 20 #[.slice A n c] w (NormOk (fun a => inS cmC a (spansL (ps.map fun p => ptIv p.2))) n w) := by
  obtain ⟨j0, hj0, hy0, hy1, hy2⟩ := info_parts info_span
  have HT := Lib.hid hT
  have H := Lib.hid h
  have HL := Lib.hid h.sr.ln
  clear hT h
  go_enter Tryd.func20, Tryd.ntmps20
  go_wp2_with fail
  go_loopw [3, 8] (fun v3 v8 wr => ∃ (i : Nat) (xs : List PS), i ≤ n ∧ v8 = .int .i64 i ∧ PtI w ps i v3 xs wr) (fun _ v8 _ => n - (intOf v8).toNat)
  case atStart => exact ⟨0, [], Nat.zero_le _, rfl, ⟨own_nil _ _ _ _, rfl, Nat.le_refl _, by simp, Below.refl _ _⟩⟩
  case round =>
    obtain ⟨i, xs, hi, rfl, I⟩ := hrel
    have J := Lib.hid I
    by_cases hlt : i < n
    · obtain ⟨p, hp⟩ : ∃ p, ps[i]? = some p := ⟨_, List.getElem?_eq_getElem (by have := HL.out; omega)⟩
      obtain ⟨b, off, rfl, _, hu, hr⟩ := H.out.vat hp
      have HP := Lib.hid hp
      have HR := Lib.hid hr
      have hbr : b < wr.heap.size := by have := hu.lt; have := I.bel.size; omega
      have hle := I.le
      obtain ⟨y0, y1, y2, y3, y4⟩ := hu.keep (I.bel.block b hu.lt)
      clear hp hu hr I
      go_upto_region 5 with fail
      have KJ := J.out.step ((Below.refl wr.heap.size wr).alloc (Nat.le_refl _) (Obj.cells p.1.arr 30))
      have KB : Blk (wr.alloc (Obj.cells p.1.arr 30)) wr.heap.size 30 p.1.arr := Blk.new_at rfl
      change (Code.region 5 _ _).wp _ _ _ (wr.alloc (Obj.cells p.1.arr 30))
      generalize wr.alloc (Obj.cells p.1.arr 30) = wa at *
      generalize wr.heap.size = ga at *
      have JA := Lib.hid KJ
      have JB := Lib.hid KB
      clear y0 y1 y2 y3 y4 J KJ KB hbr
      obtain ⟨a0, a1, a2, a3, a4⟩ := VAt.of_blk JB.out
      go_wp2_with fail
      refine (valid_any p.2 p.1 _ (HT.out.step JA.out.bel) (HR.out.step JA.out.bel)).mono ?_
      rintro e w3 ⟨rfl, hb3⟩
      have J3 := Lib.hid (JA.out.step hb3)
      have K3 := Lib.hid (JB.out.step hb3)
      clear hb3 a0 a1 a2 a3 a4 JA JB
      cases hv : validV p.2
      · have HI := Lib.hid (J3.out.skip HP.out hv)
        clear hv
        go_wp2_with fail
        go_roundw
        case rel => exact ⟨i + 1, xs, by omega, by go_num, HI.out⟩
        case measure => simp [intOf]; omega
      · have HVp := Lib.hid hv
        clear hv
        obtain ⟨a0, a1, a2, a3, a4⟩ := VAt.of_blk K3.out
        have hlo : w.heap.size ≤ w3.heap.size := J3.out.bel.size
        have LK := Lib.hid (J3.out.step ((Below.refl w3.heap.size w3).alloc (Nat.le_refl _) (Obj.cells (arrS (ptP p)) 54)))
        go_wp2_with (at_builtin; refine wpList_append_any _ rfl _ _ 46 rfl w.heap.size 54 j0 (aggS (((VC.zero, Val.zero), false), ((VC.zero, Val.zero), false))) 12 176 Tryd.underlying46 hj0 hy0 hy1 hy2 rfl (by decide) u3 xs.length (flat recS xs) rfl LK.out.own _ _ 1 _ (recS (ptP p)) rfl ⟨rfl, fun _ => ⟨_, rfl, Nat.lt_succ_self _, news_at _ _ _⟩⟩ (recS_one _) (by unfold maxLen; omega) (by omega) (le_alloc hlo _) ?_)
        intro v' w4 hown hg _
        have HI := Lib.hid (LK.out.next HP.out HVp.out HR.out hg rfl hown)
        clear hown hg a0 a1 a2 a3 a4
        go_wp2_with fail
        go_roundw
        case rel => exact ⟨i + 1, xs ++ [ptP p], by omega, by go_num, HI.out⟩
        case measure => simp [intOf]; omega
    · obtain ⟨A1, c1, rfl, hs⟩ := SS.of_own J.out.own rfl (by have := J.out.le; unfold reach; omega) (fun x hx => (J.out.ok x hx).step J.out.bel)
      have hle := I.le
      have HX : Hid (xs.map spP = spansL (ps.map fun p => ptIv p.2)) := by rw [Hid, J.out.eq, List.take_of_length_le (by have := HL.out; omega)]
      have hne : ∀ x ∈ xs, cmC (spP x).1 (spP x).2 < 0 ∧ VC1 (spP x).1 ∧ VC1 (spP x).2 := fun x hx => spansL_ne _ (by rw [← HX.out]; exact List.mem_map_of_mem hx)
      have HNe := Lib.hid hne
      have HS1 := Lib.hid hs
      have HB1 := Lib.hid J.out.bel
      obtain ⟨m1, hm1⟩ : ∃ m, m = xs.length := ⟨_, rfl⟩
      rw [← hm1] at HS1 hle ⊢
      have HM1 := Lib.hid hm1
      clear I J hs hne hm1
      go_wp2_with fail
      refine (merged_any xs A1 m1 c1 _ HS1.out (by omega)).mono ?_
      rintro e w2 ⟨A2, m2, c2, ys, rfl, ⟨S, hS, hys⟩, _, _, hss2, hm2, hb2⟩
      have HY := Lib.hid (hS.merge HNe.out)
      rw [← hys] at HY
      have HS2 := Lib.hid hss2
      have HB2 := Lib.hid (HB1.out.step' hb2)
      have HY2 := Lib.hid hss2.sr.ln
      have HM2 : Hid (m2 ≤ n) := by have := HM1.out; unfold Hid; omega
      have hm2n : m2 ≤ 100000 := by have := HM2.out; omega
      clear hS hys hss2 hm2 hb2
      go_wp2_with fail
      refine (intervals_any ys A2 m2 c2 _ HS2.out hm2n).mono ?_
      rintro e w3 ⟨A3, m3, c3, zs, rfl, hzs, hsi, hb3⟩
      have HZ := Lib.hid hzs
      have HS3 := Lib.hid hsi
      have HB3 := Lib.hid (HB2.out.step' hb3)
      have HZ3 := Lib.hid hsi.sr.ln
      clear hzs hsi hb3
      go_wp2_with fail
      go_ret
      refine ⟨A3, m3, c3, zs, ys.map spP, rfl, by rw [HZ.out, List.map_map]; rfl, ?_, ?_, HS3.out, HB3.out⟩
      · have := HY.out.1
        rw [HX.out] at this
        exact this
      · have h1 := congrArg List.length HZ.out
        simp only [List.length_map] at h1
        have := HZ3.out; have := HY2.out; have := HM2.out
        omega

def cMin : VC := ⟨1, 0, ByteArray.empty, none, 0, 0, none, 0, 0⟩
def cMax : VC := ⟨11, 0, ByteArray.empty, none, 0, 0, none, 0, 0⟩
theorem rw_min (w : World) : RW w cMin vMin := RVs.shut ⟨rfl, rfl, rfl, by decide, rfl, Nat.le_refl _, by decide, fun h => absurd h (by decide), rfl, Nat.le_refl _, by decide, fun h => absurd h (by decide)⟩
theorem rw_max (w : World) : RW w cMax vMax := RVs.shut ⟨rfl, rfl, rfl, by decide, rfl, Nat.le_refl _, by decide, fun h => absurd h (by decide), rfl, Nat.le_refl _, by decide, fun h => absurd h (by decide)⟩
theorem valid_min : validV vMin = true := valid_leaf (.inl rfl)
theorem valid_max : validV vMax = true := valid_leaf (.inr rfl)
def allIv : Iv := ⟨vMin, vMax, true, true⟩
theorem min_lt_max : cmC (vMin, false) (vMax, true) < 0 := by
  rw [cmC_ne (a := (vMin, false)) (b := (vMax, true)) (by rw [cmpV_kind (by decide)]; decide)]
  show cmpV vMin vMax < 0
  rw [cmpV_kind (by decide)]; decide
def pAll : PI := (((cMin, vMin), (cMax, vMax)), (true, true))
theorem all_nf : IsNF (fun a => inS cmC a (spansL [allIv])) [((vMin, false), (vMax, true))] := by
  have hne : allIv.ne = true := by
    unfold Iv.ne
    rw [decide_eq_true (show cmC allIv.sp.1 allIv.sp.2 < 0 from min_lt_max)]
    show (validV vMin && validV vMax && true) = true
    rw [valid_min, valid_max]; rfl
  have e : spansL [allIv] = [((vMin, false), (vMax, true))] := by unfold spansL; rw [List.filter_cons_of_pos hne]; rfl
  refine ⟨⟨fun s hs => ?_, by simp⟩, fun a => by rw [e]⟩
  simp at hs
  subst hs
  exact ⟨min_lt_max, valid_min, valid_max⟩
theorem si_one {w : World} {g : Nat} {p : PI} (h : Blk w g 37 (arrI p)) (hok : okI w p) : SI w (some ⟨g, 0, none⟩) 1 1 [p] := by
  refine ⟨⟨rfl, Nat.le_refl _, fun _ => ⟨g, 0, rfl, h.lt, fun i a hi j v hj => ?_⟩⟩, by decide, fun x hx => by simp at hx; subst hx; exact hok⟩
  cases i with
  | zero =>
    simp at hi
    subst hi
    rw [show 0 + 0 * 12 + j = j by omega, h.cell, ← Array.getElem?_toList]
    exact hj
  | succ i => simp at hi
set_option maxHeartbeats 400000 in
theorem all_any (w : World) : Calls Tryd.prog 28 #[] w (NormOk (fun a => inS cmC a (spansL [allIv])) 1 w) := by
  go_enter Tryd.func28, Tryd.ntmps28
  go_wp2_with fail
  go_ret
  exact ⟨_, 1, 1, [pAll], _, rfl, rfl, all_nf, Nat.le_refl _, si_one (Blk.new_at rfl) ⟨rw_min _, rw_max _⟩, (Below.refl _ _).alloc (Nat.le_refl _) _⟩

end Go.Proofs.YtdmabhbhlnpkgaaDoor

namespace Go.Proofs.YtdmabhbhlnpkgaaDoor
open Go.RowKit

theorem But.grown {g : Nat} {w w1 w2 : World} {row : Option Nat} (h : But g w w1) (hg : w1.grownBy w2 row) (hr : ∀ k, row = some k → w.heap.size ≤ k) : But g w w2 :=
  ⟨hg.os.trans h.os, hg.tape.trans h.tape, hg.output.trans h.output, Nat.le_trans h.size hg.size, fun k hk hne => (hg.block k (Nat.lt_of_lt_of_le hk h.size) (fun e => by have := hr k e.symm; omega)).trans (h.block k hk hne)⟩

theorem addS_pos {α : Type} {cm : α → α → Int} {c : List (α × α)} {u : α × α} (h : cm u.1 u.2 < 0) : addS cm c u = c ++ [u] := if_pos h
theorem addS_neg {α : Type} {cm : α → α → Int} {c : List (α × α)} {u : α × α} (h : ¬ cm u.1 u.2 < 0) : addS cm c u = c := if_neg h
def eC : PC := ((cMax, vMax), true)
/-- the loop of Rest, before a span is looked at: cs the spans so far -/
structure RsL (ec : PC) (w w2 : World) (n : List (Cut × Cut)) (i : Nat) (v : Value) (cs : List PS) (fc : PC) (wr : World) : Prop where
  bf : Blk wr w.heap.size 52 (arrC fc)
  be : Blk wr (w.heap.size + 1) 52 (arrC ec)
  own : wr.ownsRow w2.heap.size 54 12 v cs.length (flat recS cs)
  re : ReI cmC VC1 (vMin, false) n (n.drop i) (cutP fc) (cs.map spP)
  rn : RnI cmC VC1 (cutP fc) (cs.map spP)
  le : cs.length ≤ i
  okf : okC w fc
  ok : ∀ x ∈ cs, okS w x
  lo : w.heap.size + 2 ≤ w2.heap.size
  but : But w.heap.size w2 wr
/-- in a round: the gap before the span has been added -/
structure RsM (ec : PC) (w w2 : World) (n : List (Cut × Cut)) (i : Nat) (v : Value) (cs : List PS) (fc : PC) (p : PS) (wr : World) : Prop where
  bf : Blk wr w.heap.size 52 (arrC fc)
  be : Blk wr (w.heap.size + 1) 52 (arrC ec)
  own : wr.ownsRow w2.heap.size 54 12 v cs.length (flat recS cs)
  re : ∃ ds : List PS, ReI cmC VC1 (vMin, false) n (n.drop i) (cutP fc) (ds.map spP) ∧ RnI cmC VC1 (cutP fc) (ds.map spP) ∧ cs.map spP = addS cmC (ds.map spP) (cutP fc, cutP p.1)
  le : cs.length ≤ i + 1
  ok : ∀ x ∈ cs, okS w x
  lo : w.heap.size + 2 ≤ w2.heap.size
  but : But w.heap.size w2 wr
section
variable {ec : PC} {w w2 : World} {n : List (Cut × Cut)} {i : Nat} {v : Value} {cs : List PS} {fc : PC} {wr w' : World}
theorem RsL.step (h : RsL ec w w2 n i v cs fc wr) (hb : Below wr.heap.size wr w') : RsL ec w w2 n i v cs fc w' := ⟨h.bf.step hb, h.be.step hb, own_step h.own hb, h.re, h.rn, h.le, h.okf, h.ok, h.lo, h.but.step hb⟩
theorem RsL.skip {p : PS} (h : RsL ec w w2 n i v cs fc wr) (hc : ¬ cmC (cutP fc) (cutP p.1) < 0) : RsM ec w w2 n i v cs fc p wr :=
  ⟨h.bf, h.be, h.own, ⟨cs, h.re, h.rn, by unfold addS; rw [if_neg hc]⟩, by have := h.le; omega, h.ok, h.lo, h.but⟩
theorem RsL.add {p : PS} (h : RsL ec w w2 n i v cs fc wr) (hc : cmC (cutP fc) (cutP p.1) < 0) (hok : okS w p) {v' : Value} {m : Nat} (hg : wr.grownBy w' v.ownBlock) (hm : m = cs.length + 1)
    (ho : w'.ownsRow w2.heap.size 54 12 v' m (flat recS cs ++ recS (fc, p.1))) : RsM ec w w2 n i v' (cs ++ [(fc, p.1)]) fc p w' := by
  subst hm
  have hlo := h.lo
  refine ⟨h.bf.grown hg (fun e => own_ne h.own (by omega) e.symm), h.be.grown hg (fun e => own_ne h.own (by omega) e.symm), ?_, ⟨cs, h.re, h.rn, ?_⟩, by have := h.le; simp; omega, fun x hx => ?_, h.lo, h.but.grown hg (own_ge h.own)⟩
  · rw [flat_snoc, List.length_append]; exact ho
  · unfold addS; rw [if_pos hc, List.map_append]; rfl
  · rcases List.mem_append.1 hx with hx | hx
    · exact h.ok x hx
    · simp at hx; subst hx; exact ⟨h.okf, hok.1⟩
theorem Blk.putC {w : World} {g : Nat} {t : TypeId} {u : PC} (h : Blk w g t (arrC u)) (q : PC) : Blk (setC w g 0 q) g t (arrC q) :=
  (((((h.set_ 0 _).set_ 1 _).set_ 2 _).set_ 3 _).set_ 4 _).set_ 5 _
theorem heap_setC {w : World} {b off : Nat} {q : PC} {g : Nat} (h : g ≠ b) : (setC w b off q).heap[g]? = w.heap[g]? := by
  unfold setC
  rw [Below.heap_setCell _ _ _ _ h, heap_setV h]
theorem size_setC {w : World} {b off : Nat} {q : PC} : (setC w b off q).heap.size = w.heap.size := by
  have e : ∀ (u : World) (a : Addr) (x : Value), (u.setCell a x).heap.size = u.heap.size := fun u a x => by simp [World.setCell]
  unfold setC
  rw [e, size_setV]
theorem RsM.put {p : PS} (h : RsM ec w w2 n i v cs fc p wr) (hne : NF cmC VC1 n) (hd : n.drop i = spP p :: n.drop (i + 1)) (hok : okS w p) : RsL ec w w2 n (i + 1) v cs p.2 (setC wr w.heap.size 0 p.2) := by
  obtain ⟨ds, hre, hrn, hcs⟩ := h.re
  have hnf : NF cmC VC1 (spP p :: n.drop (i + 1)) := by
    rw [← hd]
    exact ⟨fun s hs => hne.ne s (List.mem_of_mem_drop hs), hne.ord.sublist (List.drop_sublist _ _)⟩
  have hs := hnf.ne (spP p) (by simp)
  rw [hd] at hre
  have hlo := h.lo
  refine ⟨h.bf.putC p.2, ?_, own_keep h.own fun g hg => heap_setC (by have := own_ge h.own g hg; omega), ?_, ?_, h.le, hok.2, h.ok, h.lo, ?_⟩
  · exact (heap_setC (by omega)).trans h.be
  · exact hre.next lin_cut hnf _ fun a => by rw [hcs]; exact inS_addS lin_cut
  · rw [hcs]
    exact hrn.next lin_cut hre.vf hs.2.1 (hre.gap (spP p) (by simp)) hs.1
  · exact (((((h.but.set (p := ⟨w.heap.size, 0, none⟩) rfl _).set (p := ⟨w.heap.size, 0 + 1, none⟩) rfl _).set (p := ⟨w.heap.size, 0 + 2, none⟩) rfl _).set (p := ⟨w.heap.size, 0 + 3, none⟩) rfl _).set (p := ⟨w.heap.size, 0 + 4, none⟩) rfl _).set (p := ⟨w.heap.size, 0 + 5, none⟩) rfl _
end

set_option maxRecDepth 100000 in
set_option maxHeartbeats 1500000 in
theorem rest_any (is : List PI) (A : Option Addr) (n c : Nat) (w : World) (hT : Tabs w) (h : SI w A n c is) (hn : n ≤ 50000) :
    Calls Tryd.prog 15 #[.slice A n c] w (NormOk (fun a => cmC (vMin, false) a ≤ 0 ∧ cmC a (vMax, true) < 0 ∧ ¬ inS cmC a (spansL (is.map ivP))) (n + 1) w) := by
  obtain ⟨j0, hj0, hy0, hy1, hy2⟩ := info_parts info_span
  have HT := Lib.hid hT
  have H := Lib.hid h
  have HL := Lib.hid h.sr.ln
  have Z2 := Lib.hid (((Below.refl w.heap.size w).alloc (Nat.le_refl _) (Obj.cells (arrC ((cMin, vMin), false)) 52)).alloc (by simp) (Obj.cells (arrC eC) 52))
  have B0 : Hid (Blk ((w.alloc (Obj.cells (arrC ((cMin, vMin), false)) 52)).alloc (Obj.cells (arrC eC) 52)) w.heap.size 52 (arrC ((cMin, vMin), false))) := (Blk.new_at rfl).alloc _
  have B1 : Hid (Blk ((w.alloc (Obj.cells (arrC ((cMin, vMin), false)) 52)).alloc (Obj.cells (arrC eC) 52)) (w.heap.size + 1) 52 (arrC eC)) := Blk.new_at (by simp)
  clear hT h
  go_enter Tryd.func15, Tryd.ntmps15
  go_wp2_with fail
  refine (spans_any is A n c _ (HT.out.step Z2.out) (H.out.step Z2.out) (by omega)).mono ?_
  rintro e w1 ⟨A1, m1, c1, xs, rfl, hxs, hpr, hm1, hss, hb1⟩
  have HX := Lib.hid hxs
  have HPr := Lib.hid hpr
  have HS1 := Lib.hid hss
  have HX1 := Lib.hid hss.sr.ln
  have Z1 := Lib.hid (Z2.out.step' hb1)
  have C0 := Lib.hid (B0.out.step hb1)
  have C1 := Lib.hid (B1.out.step hb1)
  have HM1 : Hid (m1 ≤ n) := by have := HL.out; unfold Hid; omega
  have hm1n : m1 ≤ 100000 := by have := HM1.out; omega
  clear hxs hss hb1 hm1 hpr Z2 B0 B1
  go_wp2_with fail
  refine (merged_any xs A1 m1 c1 _ HS1.out hm1n).mono ?_
  rintro e w2 ⟨A2, m, c2, ys, rfl, ⟨S, hS, hys⟩, hpy, hAb, hss2, hm2, hb2⟩
  have HY := Lib.hid (hS.merge (span_ne HX.out))
  rw [← hys] at HY
  have HS2 := Lib.hid hss2
  have Z3 := Lib.hid (Z1.out.step' hb2)
  have HYL := Lib.hid hss2.sr.ln
  have hmn : m ≤ n := by have := HM1.out; have := HX1.out; omega
  have hok : ∀ y ∈ ys, okS w y := fun y hy => by
    obtain ⟨⟨x, hx, e1⟩, x', hx', e2⟩ := hpy y hy
    obtain ⟨p, hp, rfl⟩ := HPr.out x hx
    obtain ⟨p', hp', rfl⟩ := HPr.out x' hx'
    exact ⟨by rw [e1]; exact (H.out.ok p hp).1, by rw [e2]; exact (H.out.ok p' hp').2⟩
  have HOk := Lib.hid hok
  have hlo1 : w.heap.size + 2 ≤ w1.heap.size := C1.out.lt
  have HAb : Hid (∀ b off, A2 = some ⟨b, off, none⟩ → w.heap.size + 2 ≤ b) := Lib.hid fun b off e => by have := hAb b off e; omega
  have hlo2 : w.heap.size + 2 ≤ w2.heap.size := by have := hb2.size; omega
  have hnf : NF cmC VC1 (ys.map spP) := HY.out.1.1
  have I0 : Hid (RsL eC w w2 (ys.map spP) 0 (.slice none 0 0) [] ((cMin, vMin), false) w2) :=
    Lib.hid ⟨C0.out.step hb2, C1.out.step hb2, own_nil _ _ _ _, ReI.start lin_cut valid_min (fun s hs => min_le (hnf.ne s hs).2.1), RnI.start, Nat.le_refl _, rw_min _, by simp, hlo2, But.refl⟩
  have HNe := Lib.hid hnf
  obtain ⟨ec, hec⟩ : ∃ ec : PC, ec = eC := ⟨_, rfl⟩
  rw [← hec] at I0
  have HEc := Lib.hid hec
  clear hS hys hss2 hm2 hb2 hpy hAb hok hnf hec Z1 C0 C1 hlo1 hlo2 HPr HS1
  go_wp2_with fail
  go_loopw [5, 16] (fun v5 v16 wr => ∃ (i : Nat) (cs : List PS) (fc : PC), i ≤ m ∧ v16 = .int .i64 i ∧ RsL ec w w2 (ys.map spP) i v5 cs fc wr) (fun _ v16 _ => m - (intOf v16).toNat)
  case atStart => exact ⟨0, [], _, Nat.zero_le _, rfl, I0.out⟩
  case round =>
    obtain ⟨i, cs, fc, hi, rfl, I⟩ := hrel
    have J := Lib.hid I
    by_cases hlt : i < m
    · obtain ⟨p, hp⟩ : ∃ p, ys[i]? = some p := ⟨_, List.getElem?_eq_getElem (by have := HYL.out; omega)⟩
      obtain ⟨b, off, rfl, hbl, hat, _⟩ := HS2.out.at hp
      have hbo := HAb.out b off rfl
      have HOk2 := Lib.hid (HOk.out p (List.mem_of_getElem? hp))
      have HDr : Hid ((ys.map spP).drop i = spP p :: (ys.map spP).drop (i + 1)) := Lib.hid (drop_of (by rw [List.getElem?_map, hp]; rfl))
      have hbr : b < wr.heap.size := by have := I.but.size; omega
      have hle := I.le
      obtain ⟨⟨⟨p0, p1, p2, p3, p4⟩, p5⟩, ⟨⟨q0, q1, q2, q3, q4⟩, q5⟩⟩ := hat.keep (I.but.block b hbl (by omega))
      clear hp hat I hbl hbo
      go_upto_region 7 with fail
      have KJ := J.out.step ((Below.refl wr.heap.size wr).alloc (Nat.le_refl _) (Obj.cells (arrS p) 54))
      have KB : Blk (wr.alloc (Obj.cells (arrS p) 54)) wr.heap.size 54 (arrS p) := Blk.new_at rfl
      have hga : w2.heap.size ≤ wr.heap.size := J.out.but.size
      have hno : u5.ownBlock ≠ some wr.heap.size := fun e => absurd (own_lt J.out.own e) (by omega)
      change (Code.region 7 _ _).wp _ _ _ (wr.alloc (Obj.cells (arrS p) 54))
      generalize wr.alloc (Obj.cells (arrS p) 54) = wa at *
      generalize wr.heap.size = ga at *
      have JA := Lib.hid KJ
      have JB := Lib.hid KB
      clear p0 p1 p2 p3 p4 p5 q0 q1 q2 q3 q4 q5 J KJ KB hbr
      obtain ⟨⟨⟨p0, p1, p2, p3, p4⟩, p5⟩, _⟩ := SAt.of_blk JB.out
      obtain ⟨⟨f0, f1, f2, f3, f4⟩, f5⟩ := CAt.of_blk JA.out.bf
      have hlo := JA.out.lo
      have Wa := Lib.hid (Z3.out.trans (JA.out.but.below (by omega) (Nat.le_refl _)))
      go_wp2_with fail
      refine (compare_any fc p.1 _ (JA.out.okf.step Wa.out) (HOk2.out.step Wa.out).1).mono ?_
      rintro e w3 ⟨rfl, hb3⟩
      have J3 := Lib.hid (JA.out.step hb3)
      have KBw3 := Lib.hid (JB.out.step hb3)
      clear hb3 p0 p1 p2 p3 p4 p5 f0 f1 f2 f3 f4 f5 JA JB Wa
      have lga := KBw3.out.lt
      have lw : w.heap.size < w3.heap.size := J3.out.bf.lt
      have hgw : ga ≠ w.heap.size := by omega
      by_cases hc : cmC (cutP fc) (cutP p.1) < 0
      · obtain ⟨⟨⟨p0, p1, p2, p3, p4⟩, p5⟩, _⟩ := SAt.of_blk KBw3.out
        obtain ⟨⟨f0, f1, f2, f3, f4⟩, f5⟩ := CAt.of_blk J3.out.bf
        have hlo3 : w2.heap.size ≤ w3.heap.size := J3.out.but.size
        have LK := Lib.hid (J3.out.step ((Below.refl w3.heap.size w3).alloc (Nat.le_refl _) (Obj.cells (arrS (fc, p.1)) 54)))
        go_wp2_with (at_builtin; refine wpList_append_any _ rfl _ _ 46 rfl w2.heap.size 54 j0 (aggS (((VC.zero, Val.zero), false), ((VC.zero, Val.zero), false))) 12 176 Tryd.underlying46 hj0 hy0 hy1 hy2 rfl (by decide) u5 cs.length (flat recS cs) rfl LK.out.own _ _ 1 _ (recS (fc, p.1)) rfl ⟨rfl, fun _ => ⟨_, rfl, Nat.lt_succ_self _, news_at _ _ _⟩⟩ (recS_one _) (by unfold maxLen; omega) (by omega) (le_alloc hlo3 _) ?_)
        intro v' w4 hown hg _
        have J4 := Lib.hid (LK.out.add (p := p) hc HOk2.out hg rfl hown)
        have KBw4 := Lib.hid ((KBw3.out.alloc (Obj.cells (arrS (fc, p.1)) 54)).grown hg (fun e => hno e.symm))
        clear hown hg p0 p1 p2 p3 p4 p5 f0 f1 f2 f3 f4 f5 J3 KBw3 LK hc lga lw
        have lga := KBw4.out.lt
        have lw : w.heap.size < w4.heap.size := J4.out.bf.lt
        obtain ⟨_, ⟨⟨q0, q1, q2, q3, q4⟩, q5⟩⟩ := SAt.of_blk KBw4.out
        obtain ⟨⟨f0, f1, f2, f3, f4⟩, f5⟩ := CAt.of_blk J4.out.bf
        have zf := J4.out.bf.frozen
        go_upto_region 10 with fail
        have HI := Lib.hid (J4.out.put HNe.out HDr.out HOk2.out)
        clear q0 q1 q2 q3 q4 q5 f0 f1 f2 f3 f4 f5 zf
        obtain ⟨w8, hw8, HI8⟩ : ∃ w8, setC w4 w.heap.size 0 p.2 = w8 ∧ Hid (RsL ec w w2 (ys.map spP) (i + 1) v' (cs ++ [(fc, p.1)]) p.2 w8) := ⟨_, rfl, HI⟩
        unfold setC setV at hw8
        simp only [Nat.zero_add] at hw8
        rw [hw8]
        clear hw8 HI
        go_wp2_with fail
        go_roundw
        case rel => exact ⟨i + 1, _, _, by omega, by go_num, HI8.out⟩
        case measure => simp [intOf]; omega
      · have J4 := Lib.hid (J3.out.skip hc)
        clear J3
        obtain ⟨_, ⟨⟨q0, q1, q2, q3, q4⟩, q5⟩⟩ := SAt.of_blk KBw3.out
        obtain ⟨⟨f0, f1, f2, f3, f4⟩, f5⟩ := CAt.of_blk J4.out.bf
        have zf := J4.out.bf.frozen
        go_upto_region 10 with fail
        have HI := Lib.hid (J4.out.put HNe.out HDr.out HOk2.out)
        clear q0 q1 q2 q3 q4 q5 f0 f1 f2 f3 f4 f5 zf
        obtain ⟨w8, hw8, HI8⟩ : ∃ w8, setC w3 w.heap.size 0 p.2 = w8 ∧ Hid (RsL ec w w2 (ys.map spP) (i + 1) u5 cs p.2 w8) := ⟨_, rfl, HI⟩
        unfold setC setV at hw8
        simp only [Nat.zero_add] at hw8
        rw [hw8]
        clear hw8 HI
        go_wp2_with fail
        go_roundw
        case rel => exact ⟨i + 1, _, _, by omega, by go_num, HI8.out⟩
        case measure => simp [intOf]; omega
    · have hdrop : (ys.map spP).drop i = [] := List.drop_of_length_le (by rw [List.length_map]; have := HYL.out; omega)
      have hre := I.re
      rw [hdrop] at hre
      have HRe := Lib.hid hre
      have HRn := Lib.hid I.rn
      have hle := I.le
      have hlo := I.lo
      have hlo3 : w2.heap.size ≤ wr.heap.size := I.but.size
      have Wr := Lib.hid (Z3.out.trans (I.but.below (by omega) (Nat.le_refl _)))
      clear I hdrop hre
      have okE : ∀ u : World, okC u ec := fun u => by rw [HEc.out]; exact rw_max u
      obtain ⟨⟨f0, f1, f2, f3, f4⟩, f5⟩ := CAt.of_blk J.out.bf
      obtain ⟨⟨e0, e1, e2, e3, e4⟩, e5⟩ := CAt.of_blk J.out.be
      go_wp2_with fail
      refine (compare_any fc ec _ (J.out.okf.step Wr.out) (okE _)).mono ?_
      rintro e w3 ⟨rfl, hb3⟩
      have J3 := Lib.hid (J.out.step hb3)
      have W3 := Lib.hid (Wr.out.step' hb3)
      clear hb3 f0 f1 f2 f3 f4 f5 e0 e1 e2 e3 e4 e5 J Wr
      have hlo4 : w2.heap.size ≤ w3.heap.size := J3.out.but.size
      go_upto_if 38 with fail
      go_cut [5] (fun v5 wx => ∃ ds : List PS, wx.ownsRow w2.heap.size 54 12 v5 ds.length (flat recS ds) ∧ ds.map spP = addS cmC (cs.map spP) (cutP fc, cutP ec) ∧ ds.length ≤ m + 1 ∧ (∀ x ∈ ds, okS w x) ∧ Below w.heap.size w wx)
      case first =>
        by_cases hc : cmC (cutP fc) (cutP ec) < 0
        · have HC := Lib.hid hc
          obtain ⟨⟨f0, f1, f2, f3, f4⟩, f5⟩ := CAt.of_blk J3.out.bf
          obtain ⟨⟨e0, e1, e2, e3, e4⟩, e5⟩ := CAt.of_blk J3.out.be
          have LK := Lib.hid (J3.out.step ((Below.refl w3.heap.size w3).alloc (Nat.le_refl _) (Obj.cells (arrS (fc, ec)) 54)))
          go_wp2_with (at_builtin; refine wpList_append_any _ rfl _ _ 46 rfl w2.heap.size 54 j0 (aggS (((VC.zero, Val.zero), false), ((VC.zero, Val.zero), false))) 12 176 Tryd.underlying46 hj0 hy0 hy1 hy2 rfl (by decide) u5 cs.length (flat recS cs) rfl LK.out.own _ _ 1 _ (recS (fc, ec)) rfl ⟨rfl, fun _ => ⟨_, rfl, Nat.lt_succ_self _, news_at _ _ _⟩⟩ (recS_one _) (by unfold maxLen; omega) (by omega) (le_alloc hlo4 _) ?_)
          intro v' w4 hown hg _
          have J4 := Lib.hid (LK.out.add (p := (ec, ec)) hc ⟨okE _, okE _⟩ hg rfl hown)
          clear hown hg
          go_wp2_with fail
          go_meet
          refine ⟨cs ++ [(fc, ec)], J4.out.own, ?_, by simp; omega, J4.out.ok, Z3.out.trans (J4.out.but.below (by omega) (Nat.le_refl _))⟩
          rw [addS_pos (u := (cutP fc, cutP ec)) HC.out, List.map_append, List.map_singleton]
          rfl
        · have HC := Lib.hid hc
          go_wp2_with fail
          go_meet
          exact ⟨cs, J3.out.own, by rw [addS_neg (u := (cutP fc, cutP ec)) (by show ¬ cmC (cutP fc) (cutP ec) < 0; have := HC.out; omega)], by omega, J3.out.ok, W3.out⟩
      case rest =>
        obtain ⟨ds, hown, hds, hdl, hok, hbw⟩ := hcut
        rw [show cutP ec = (vMax, true) by rw [HEc.out]; rfl] at hds
        have HDs := Lib.hid hds
        obtain ⟨A4, c4, rfl, hs⟩ := SS.of_own hown rfl (by unfold reach; omega) (fun x hx => (hok x hx).step hbw)
        have HS4 := Lib.hid hs
        have HB4 := Lib.hid hbw
        obtain ⟨k, hk⟩ : ∃ k, k = ds.length := ⟨_, rfl⟩
        rw [← hk] at HS4 hdl ⊢
        have HK := Lib.hid hk
        clear hown hds hok hbw hs hk J3 W3
        go_wp2_with fail
        refine (intervals_any ds A4 k c4 _ HS4.out (by omega)).mono ?_
        rintro e w5 ⟨A5, m5, c5, zs, rfl, hzs, hsi, hb5⟩
        have HZ := Lib.hid hzs
        have HS5 := Lib.hid hsi
        have HB5 := Lib.hid (HB4.out.step' hb5)
        have HZ5 := Lib.hid hsi.sr.ln
        clear hzs hsi hb5
        go_wp2_with fail
        go_ret
        refine ⟨A5, m5, c5, zs, ds.map spP, rfl, by rw [HZ.out, List.map_map]; rfl, ⟨?_, fun a => ?_⟩, ?_, HS5.out, HB5.out⟩
        · rw [HDs.out]
          exact HRn.out.add HRe.out.vf valid_max
        · have hd := HRe.out.done lin_cut (m1 := (vMax, true)) (le_max HRe.out.vf) (addS cmC (cs.map spP) (cutP fc, ((vMax, true) : Cut))) (fun a => inS_addS lin_cut) a
          have hy : inS cmC a (ys.map spP) ↔ inS cmC a (spansL (is.map ivP)) := by rw [← HX.out]; exact HY.out.1.2 a
          rw [HDs.out]
          exact hd.trans (and_congr Iff.rfl (and_congr Iff.rfl (not_congr hy)))
        · have h1 := congrArg List.length HZ.out
          simp only [List.length_map] at h1
          have := HZ5.out; have := HK.out
          omega

end Go.Proofs.YtdmabhbhlnpkgaaDoor
