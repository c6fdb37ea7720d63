/- Parts of the proof, joined: IvBaseA1, ShOne, ValTake, ShOf. -/
import Derived.Test.YtlmmgjgkmbmgpaaGreatDoorB10
import Derived.Test.YtlmmgjgkmbmgpaaGreatDoorB11
import Derived.Test.YtlmmgjgkmbmgpaaGreatDoorB4
import Derived.Test.YtlmmgjgkmbmgpaaGreatDoorB8
import Derived.Test.YtlmmgjgkmbmgpaaGreatDoorB1
import Derived.Test.YtlmmgjgkmbmgpaaGreatDoorB3
import Derived.Deep.RegionHeld3
/- The contract of interval.intervals. · The contracts of interval.Normal, Has, All and Points. · The contracts of interval.Points, All and Rest. · The contract of interval.Rest. -/
namespace Go.RowKit
theorem Below.kc {w w' : World} (hb : Below w.heap.size w w') {a : Addr} {v : Value} (h : w.cell? a = some v) : w'.cell? a = some v := (hb.cell (World.block_lt_of_cell? w a h)).trans h
end Go.RowKit
namespace Go.Proofs.YtlmmgjgkmbmgpaaGreatDoor
open Go.RowKit

/-- a slice of intervals is handed back -/
def IvOk (l : List Iv) (w : World) (e : Ending) (w' : World) : Prop :=
  ∃ (A : Option Addr) (m c : Nat) (ys : List PI), e = .returned (.slice A m c) ∧ ys.map ivP = l ∧ SI w' A m c ys ∧ Below w.heap.size w w'
def apI (v : Value) (w : World) (p : PI) : Prop := RV (fun b => 0 ≤ b ∧ v.ownBlock ≠ some b) w p.1.1.1 p.1.1.2 ∧ RV (fun b => 0 ≤ b ∧ v.ownBlock ≠ some b) w p.1.2.1 p.1.2.2
/-- the loop of intervals -/
structure IvL (w : World) (xs : List PS) (i : Nat) (v : Value) (ys : List PI) (wr : World) : Prop where
  own : wr.ownsRow w.heap.size 156 12 v i (flat recI ys)
  eq : ys.map ivP = (xs.take i).map fun x => ivOf (spP x)
  el : ∀ y ∈ ys, apI v wr y
  bel : Below w.heap.size w wr
theorem IvL.step {w : World} {xs : List PS} {i : Nat} {v : Value} {ys : List PI} {wr w' : World} (h : IvL w xs i v ys wr) (hb : Below wr.heap.size wr w') : IvL w xs i v ys w' :=
  ⟨own_step h.own hb, h.eq, fun y hy => ⟨(h.el y hy).1.step hb, (h.el y hy).2.step hb⟩, h.bel.step' hb⟩
theorem IvL.next {w : World} {xs : List PS} {i : Nat} {v v' : Value} {ys : List PI} {w4 w5 : World} {o : Obj} {p : PS} {q : PI} (h : IvL w xs i v ys w4) (hp : xs[i]? = some p) (hq : ivP q = ivOf (spP p)) (hel : apI v w4 q)
    (hg : (w4.alloc o).grownBy w5 v.ownBlock) (hat : v'.ownBlock = v.ownBlock ∨ v'.ownBlock = some (w4.alloc o).heap.size) (ho : w5.ownsRow w.heap.size 156 12 v' (i + 1) (flat recI ys ++ recI q)) : IvL w xs (i + 1) v' (ys ++ [q]) w5 := by
  refine ⟨by rw [flat_snoc]; exact ho, ?_, fun y hy => ?_, (h.bel.alloc h.bel.size o).grown hg (by have := h.bel.size; simp; omega) (own_ge h.own)⟩
  · rw [take_snoc' hp, List.map_append, List.map_append, h.eq, List.map_singleton, List.map_singleton, hq]
  · have hy' : apI v w4 y := by
      rcases List.mem_append.1 hy with hy | hy
      · exact h.el y hy
      · simp at hy; subst hy; exact hel
    exact ⟨rv_grown hy'.1 hg hat, rv_grown hy'.2 hg hat⟩
theorem le_alloc {a : Nat} {w : World} (h : a ≤ w.heap.size) (o : Obj) : a ≤ (w.alloc o).heap.size := by simp; omega
theorem ivq (p : PS) (ca cb : VC) : ivP (((ca, p.1.1.2), (cb, p.2.1.2)), (!p.1.2, p.2.2)) = ivOf (spP p) := rfl

set_option maxRecDepth 100000 in
set_option maxHeartbeats 4000000 in
theorem intervals_any (xs : List PS) (A : Option Addr) (n c : Nat) (w : World) (h : SS w A n c xs) (hn : n ≤ 100000) :
    Calls Tryz.prog 181 #[.slice A n c] w (IvOk (xs.map fun x => ivOf (spP x)) w) := by
  obtain ⟨j0, hj0, hy0, hy1, hy2⟩ := info_parts info_interval
  have H := Lib.hid h
  have HL := Lib.hid h.sr.ln
  clear h
  go_enter Tryz.func181, Tryz.ntmps181
  go_wp2_with fail
  go_loopw [3, 8] (fun v3 v8 wr => ∃ (i : Nat) (ys : List PI), i ≤ n ∧ v8 = .int .i64 i ∧ IvL w xs i v3 ys wr) (fun _ v8 _ => n - (intOf v8).toNat)
  case atStart => exact ⟨0, [], Nat.zero_le _, rfl, ⟨own_nil _ _ _ _, rfl, by simp, Below.refl _ _⟩⟩
  case round =>
    obtain ⟨i, ys, hi, rfl, I⟩ := hrel
    have J := Lib.hid I
    by_cases hlt : i < n
    · obtain ⟨p, hp⟩ : ∃ p, xs[i]? = some p := ⟨_, List.getElem?_eq_getElem (by have := HL.out; omega)⟩
      obtain ⟨b, off, rfl, hbl, hat, hok⟩ := H.out.at hp
      have HP := Lib.hid hp
      have HPk := Lib.hid hok
      have hbr : b < wr.heap.size := by have := I.bel.size; omega
      obtain ⟨⟨⟨p0, p1, p2, p3, p4⟩, p5⟩, ⟨⟨q0, q1, q2, q3, q4⟩, q5⟩⟩ := hat.keep (I.bel.block b hbl)
      clear hp hat hok I hbl
      go_upto_region 5 with fail
      have hs3 : u3.ownBlock ≠ some wr.heap.size := fun e => absurd (own_lt J.out.own e) (by omega)
      have KJ := J.out.step ((Below.refl wr.heap.size wr).alloc (Nat.le_refl _) (Obj.cells (arrS p) 210))
      have KB : Blk (wr.alloc (Obj.cells (arrS p) 210)) wr.heap.size 210 (arrS p) := Blk.new_at rfl
      change (Code.region 5 _ _).wp _ _ _ (wr.alloc (Obj.cells (arrS p) 210))
      generalize wr.alloc (Obj.cells (arrS p) 210) = wa at *
      generalize wr.heap.size = ga at *
      have JA := Lib.hid KJ
      have JB := Lib.hid KB
      clear p0 p1 p2 p3 p4 p5 q0 q1 q2 q3 q4 q5 J KJ KB hbr
      obtain ⟨⟨⟨p0, p1, p2, p3, p4⟩, p5⟩, ⟨⟨q0, q1, q2, q3, q4⟩, q5⟩⟩ := SAt.of_blk JB.out
      have B := Lib.hid ((Below.refl wa.heap.size wa).drewN 1)
      have RP := Lib.hid (HPk.out.step JA.out.bel)
      have KS : Hid (∀ w', Below wa.heap.size wa w' → w'.cell? ⟨ga, 0, none⟩ = some (.int .i64 p.1.1.1.k) ∧ w'.cell? ⟨ga, 1, none⟩ = some (.int .i64 p.1.1.1.n) ∧ w'.cell? ⟨ga, 2, none⟩ = some (.string p.1.1.1.t) ∧ w'.cell? ⟨ga, 3, none⟩ = some (.slice p.1.1.1.LA p.1.1.1.ln p.1.1.1.lc) ∧ w'.cell? ⟨ga, 4, none⟩ = some (.slice p.1.1.1.DA p.1.1.1.dn p.1.1.1.dc) ∧ w'.cell? ⟨ga, 5, none⟩ = some (.bool p.1.2) ∧ w'.cell? ⟨ga, 6, none⟩ = some (.int .i64 p.2.1.1.k) ∧ w'.cell? ⟨ga, 7, none⟩ = some (.int .i64 p.2.1.1.n) ∧ w'.cell? ⟨ga, 8, none⟩ = some (.string p.2.1.1.t) ∧ w'.cell? ⟨ga, 9, none⟩ = some (.slice p.2.1.1.LA p.2.1.1.ln p.2.1.1.lc) ∧ w'.cell? ⟨ga, 10, none⟩ = some (.slice p.2.1.1.DA p.2.1.1.dn p.2.1.1.dc) ∧ w'.cell? ⟨ga, 11, none⟩ = some (.bool p.2.2)) := Lib.hid fun w' hb => ⟨hb.kc p0, hb.kc p1, hb.kc p2, hb.kc p3, hb.kc p4, hb.kc p5, hb.kc q0, hb.kc q1, hb.kc q2, hb.kc q3, hb.kc q4, hb.kc q5⟩
      have F1 : Hid (i + 1 ≤ maxLen) := by unfold Hid maxLen; omega
      have F2 : Hid ((i + 1) * 168 ≤ 140737488355328) := by unfold Hid; omega
      have KG : Hid (∀ w' w'' o, Below wa.heap.size wa w' → (w'.alloc o).grownBy w'' u3.ownBlock → w''.cell? ⟨ga, 0, none⟩ = some (.int .i64 p.1.1.1.k) ∧ w''.cell? ⟨ga, 1, none⟩ = some (.int .i64 p.1.1.1.n) ∧ w''.cell? ⟨ga, 2, none⟩ = some (.string p.1.1.1.t) ∧ w''.cell? ⟨ga, 3, none⟩ = some (.slice p.1.1.1.LA p.1.1.1.ln p.1.1.1.lc) ∧ w''.cell? ⟨ga, 4, none⟩ = some (.slice p.1.1.1.DA p.1.1.1.dn p.1.1.1.dc) ∧ w''.cell? ⟨ga, 5, none⟩ = some (.bool p.1.2) ∧ w''.cell? ⟨ga, 6, none⟩ = some (.int .i64 p.2.1.1.k) ∧ w''.cell? ⟨ga, 7, none⟩ = some (.int .i64 p.2.1.1.n) ∧ w''.cell? ⟨ga, 8, none⟩ = some (.string p.2.1.1.t) ∧ w''.cell? ⟨ga, 9, none⟩ = some (.slice p.2.1.1.LA p.2.1.1.ln p.2.1.1.lc) ∧ w''.cell? ⟨ga, 10, none⟩ = some (.slice p.2.1.1.DA p.2.1.1.dn p.2.1.1.dc) ∧ w''.cell? ⟨ga, 11, none⟩ = some (.bool p.2.2)) := Lib.hid fun w' w'' o hb hg => ⟨gr_cell hg (hb.kc p0) hs3, gr_cell hg (hb.kc p1) hs3, gr_cell hg (hb.kc p2) hs3, gr_cell hg (hb.kc p3) hs3, gr_cell hg (hb.kc p4) hs3, gr_cell hg (hb.kc p5) hs3, gr_cell hg (hb.kc q0) hs3, gr_cell hg (hb.kc q1) hs3, gr_cell hg (hb.kc q2) hs3, gr_cell hg (hb.kc q3) hs3, gr_cell hg (hb.kc q4) hs3, gr_cell hg (hb.kc q5) hs3⟩
      clear p0 p1 p2 p3 p4 p5 q0 q1 q2 q3 q4 q5
      have tok1 : True := trivial
      go_region_held3 (fun w' => w'.cell? ⟨ga, 0, none⟩ = some (.int .i64 p.1.1.1.k) ∧ w'.cell? ⟨ga, 1, none⟩ = some (.int .i64 p.1.1.1.n) ∧ w'.cell? ⟨ga, 2, none⟩ = some (.string p.1.1.1.t) ∧ w'.cell? ⟨ga, 3, none⟩ = some (.slice p.1.1.1.LA p.1.1.1.ln p.1.1.1.lc) ∧ w'.cell? ⟨ga, 4, none⟩ = some (.slice p.1.1.1.DA p.1.1.1.dn p.1.1.1.dc) ∧ w'.cell? ⟨ga, 5, none⟩ = some (.bool p.1.2) ∧ w'.cell? ⟨ga, 6, none⟩ = some (.int .i64 p.2.1.1.k) ∧ w'.cell? ⟨ga, 7, none⟩ = some (.int .i64 p.2.1.1.n) ∧ w'.cell? ⟨ga, 8, none⟩ = some (.string p.2.1.1.t) ∧ w'.cell? ⟨ga, 9, none⟩ = some (.slice p.2.1.1.LA p.2.1.1.ln p.2.1.1.lc) ∧ w'.cell? ⟨ga, 10, none⟩ = some (.slice p.2.1.1.DA p.2.1.1.dn p.2.1.1.dc) ∧ w'.cell? ⟨ga, 11, none⟩ = some (.bool p.2.2))
        (first | exact KS.out _ B.out | exact KS.out _ (B.out.alloc B.out.size _) | ((try dsimp only); assumption) | go_keep)
        (first
          | (refine step_append_any _ rfl (.tmp 12) (.tmp 29) 152 rfl w.heap.size 156 j0 (aggI (((VC.zero, Val.zero), (VC.zero, Val.zero)), (false, false))) 12 168 Tryz.underlying152 hj0 hy0 hy1 hy2 rfl (by decide) u3 i (flat recI ys) (by simp [Act.eval]) ((own_step JA.out.own B.out).alloc _) (w4.heap.size + 1) (some ⟨w4.heap.size, 0, none⟩) 1 1 (recI (((ca, p.1.1.2), (cb, p.2.1.2)), (!p.1.2, p.2.2))) (by simp [Act.eval]) ⟨rfl, fun _ => ⟨_, rfl, Nat.lt_succ_self _, news_at _ _ _⟩⟩ (recI_one _) F1.out F2.out (le_alloc (JA.out.step B.out).bel.size _) ?_; intro v' w5 hown hgr hat; have hs := KG.out _ _ _ B.out hgr)
          | (go_at_call 202; have _t := tok1; refine (copy_any p.1.1.2 p.1.1.1 _ (RP.out.1.step B.out)).mono ?_; rintro e3 w3 ⟨ca, rfl, hra, hb⟩; replace B := Lib.hid (B.out.step' hb); have RA := Lib.hid hra; have B3 := B; clear hb hra tok1 _t)
          | (go_at_call 202; refine (copy_any p.2.1.2 p.2.1.1 _ (RP.out.2.step B.out)).mono ?_; rintro e3 w4 ⟨cb, rfl, hrb, hb⟩; replace RA := Lib.hid (RA.out.step hb); replace B := Lib.hid (B.out.step' hb); have RB := Lib.hid hrb; clear hb hrb))
      all_goals
        have HI := Lib.hid ((JA.out.step B.out).next HP.out (ivq p ca cb) ⟨RA.out.mono fun q hq => ⟨Nat.zero_le _, fun e => by have := own_lt JA.out.own e; have hq' : wa.heap.size ≤ q := hq; omega⟩, RB.out.mono fun q hq => ⟨Nat.zero_le _, fun e => by have := own_lt (own_step JA.out.own B3.out) e; omega⟩⟩ hgr hat hown)
        clear hown hgr hat KS KG hs hs3 JA JB RP RA RB B B3
        go_wp2_with fail
        go_roundw
        case rel => exact ⟨i + 1, _, by omega, by go_num, HI.out⟩
        case measure => simp [intOf]; omega
    · clear I
      go_wp2_with fail
      go_ret
      have hyl : ys.length = i := by have := congrArg List.length J.out.eq; have := HL.out; simp only [List.length_map, List.length_take] at *; omega
      obtain ⟨A', c', e, hs⟩ := SI.of_own J.out.own hyl (by unfold reach; omega) (fun y hy => ⟨(J.out.el y hy).1.mono fun _ _ => trivial, (J.out.el y hy).2.mono fun _ _ => trivial⟩)
      exact ⟨A', _, c', ys, by rw [← e]; rfl, by rw [J.out.eq, List.take_of_length_le (by have := HL.out; omega)], hs, J.out.bel⟩

end Go.Proofs.YtlmmgjgkmbmgpaaGreatDoor

namespace Go.Proofs.YtlmmgjgkmbmgpaaGreatDoor
open Go.RowKit

/-- a normal form is handed back -/
def NormOk (S : Cut → Prop) (k : Nat) (w : World) (e : Ending) (w' : World) : Prop :=
  ∃ (A : Option Addr) (m c : Nat) (ys : List PI) (n : List (Cut × Cut)), e = .returned (.slice A m c) ∧ ys.map ivP = n.map ivOf ∧ IsNF S n ∧ m ≤ k ∧ SI w' A m c ys ∧ Below w.heap.size w w'

theorem span_ne {is : List PI} {xs : List PS} (h : xs.map spP = spansL (is.map ivP)) : ∀ x ∈ xs, cmC (spP x).1 (spP x).2 < 0 ∧ VC1 (spP x).1 ∧ VC1 (spP x).2 := by
  intro x hx
  have : spP x ∈ spansL (is.map ivP) := by rw [← h]; exact List.mem_map_of_mem hx
  exact spansL_ne _ this

def ptIv (v : Val) : Iv := ⟨v, v, true, true⟩
theorem pt_ne (v : Val) : (ptIv v).ne = validV v := by
  unfold Iv.ne
  have : cmC (ptIv v).sp.1 (ptIv v).sp.2 < 0 := by
    rw [cmC_zero (a := (ptIv v).sp.1) (b := (ptIv v).sp.2) (cmpV_self v)]
    show cmB false true < 0
    decide
  rw [decide_eq_true this]
  show (validV v && validV v && true) = validV v
  cases validV v <;> rfl
def ptP (p : PV) : PS := ((p, false), (p, true))
/-- the loop of Points -/
structure PtI (w : World) (ps : List PV) (i : Nat) (v : Value) (xs : List PS) (wr : World) : Prop where
  own : wr.ownsRow w.heap.size 210 12 v xs.length (flat recS xs)
  eq : xs.map spP = spansL ((ps.take i).map fun p => ptIv p.2)
  le : xs.length ≤ i
  ok : ∀ x ∈ xs, okS w x
  bel : Below w.heap.size w wr
theorem PtI.step {w : World} {ps : List PV} {i : Nat} {v : Value} {xs : List PS} {wr w' : World} (h : PtI w ps i v xs wr) (hb : Below wr.heap.size wr w') : PtI w ps i v xs w' := ⟨own_step h.own hb, h.eq, h.le, h.ok, h.bel.step' hb⟩
theorem PtI.skip {w : World} {ps : List PV} {i : Nat} {v : Value} {xs : List PS} {wr : World} {p : PV} (h : PtI w ps i v xs wr) (hp : ps[i]? = some p) (hn : validV p.2 = false) : PtI w ps (i + 1) v xs wr := by
  refine ⟨h.own, ?_, by have := h.le; omega, h.ok, h.bel⟩
  rw [take_snoc' hp, List.map_append, List.map_singleton, spansL_snoc, pt_ne, hn]
  exact h.eq
theorem PtI.next {w : World} {ps : List PV} {i m : Nat} {v v' : Value} {xs : List PS} {wr w' : World} {p : PV} (h : PtI w ps i v xs wr) (hp : ps[i]? = some p) (hn : validV p.2 = true) (hok : RW w p.1 p.2) (hg : wr.grownBy w' v.ownBlock)
    (hm : m = xs.length + 1) (ho : w'.ownsRow w.heap.size 210 12 v' m (flat recS xs ++ recS (ptP p))) : PtI w ps (i + 1) v' (xs ++ [ptP p]) w' := by
  subst hm
  refine ⟨?_, ?_, by have := h.le; simp; omega, fun x hx => ?_, h.bel.grown hg h.bel.size (own_ge h.own)⟩
  · rw [flat_snoc, List.length_append]; exact ho
  · have e : spansL ((ps.take (i + 1)).map fun p => ptIv p.2) = spansL ((ps.take i).map fun p => ptIv p.2) ++ [(ptIv p.2).sp] := by
      rw [take_snoc' hp, List.map_append, List.map_singleton, spansL_snoc, pt_ne, hn]; rfl
    rw [e, List.map_append, h.eq]
    rfl
  · rcases List.mem_append.1 hx with hx | hx
    · exact h.ok x hx
    · simp at hx; subst hx; exact ⟨hok, hok⟩

set_option maxRecDepth 100000 in
set_option maxHeartbeats 2000000 in
theorem points_any (ps : List PV) (A : Option Addr) (n c : Nat) (w : World) (hT : Tabs w) (h : SL (fun _ => True) w A n c ps) (hn1 : n ≤ 1) :
    Calls Tryz.prog 149 #[.slice A n c] w (NormOk (fun a => inS cmC a (spansL (ps.map fun p => ptIv p.2))) n w) := by
  have HN1 := Lib.hid hn1
  have hn : n ≤ 100000 := by omega
  clear hn1
  obtain ⟨j0, hj0, hy0, hy1, hy2⟩ := info_parts info_span
  have HT := Lib.hid hT
  have H := Lib.hid h
  have HL := Lib.hid h.sr.ln
  clear hT h
  go_enter Tryz.func149, Tryz.ntmps149
  go_wp2_with fail
  go_loopw [3, 8] (fun v3 v8 wr => ∃ (i : Nat) (xs : List PS), i ≤ n ∧ v8 = .int .i64 i ∧ PtI w ps i v3 xs wr) (fun _ v8 _ => n - (intOf v8).toNat)
  case atStart => exact ⟨0, [], Nat.zero_le _, rfl, ⟨own_nil _ _ _ _, rfl, Nat.le_refl _, by simp, Below.refl _ _⟩⟩
  case round =>
    obtain ⟨i, xs, hi, rfl, I⟩ := hrel
    have J := Lib.hid I
    by_cases hlt : i < n
    · obtain ⟨p, hp⟩ : ∃ p, ps[i]? = some p := ⟨_, List.getElem?_eq_getElem (by have := HL.out; omega)⟩
      obtain ⟨b, off, rfl, _, hu, hr⟩ := H.out.vat hp
      have HP := Lib.hid hp
      have HR := Lib.hid hr
      have hbr : b < wr.heap.size := by have := hu.lt; have := I.bel.size; omega
      have hle := I.le
      obtain ⟨y0, y1, y2, y3, y4⟩ := hu.keep (I.bel.block b hu.lt)
      clear hp hu hr I
      go_upto_region 5 with fail
      have KJ := J.out.step ((Below.refl wr.heap.size wr).alloc (Nat.le_refl _) (Obj.cells p.1.arr 46))
      have KB : Blk (wr.alloc (Obj.cells p.1.arr 46)) wr.heap.size 46 p.1.arr := Blk.new_at rfl
      change (Code.region 5 _ _).wp _ _ _ (wr.alloc (Obj.cells p.1.arr 46))
      generalize wr.alloc (Obj.cells p.1.arr 46) = wa at *
      generalize wr.heap.size = ga at *
      have JA := Lib.hid KJ
      have JB := Lib.hid KB
      clear y0 y1 y2 y3 y4 J KJ KB hbr
      obtain ⟨a0, a1, a2, a3, a4⟩ := VAt.of_blk JB.out
      go_wp2_with fail
      refine (valid_any p.2 p.1 _ (HT.out.step JA.out.bel) (HR.out.step JA.out.bel)).mono ?_
      rintro e w3 ⟨rfl, hb3⟩
      have J3 := Lib.hid (JA.out.step hb3)
      have K3 := Lib.hid (JB.out.step hb3)
      clear hb3 a0 a1 a2 a3 a4 JA JB
      cases hv : validV p.2
      · have HI := Lib.hid (J3.out.skip HP.out hv)
        clear hv
        go_wp2_with fail
        go_roundw
        case rel => exact ⟨i + 1, xs, by omega, by go_num, HI.out⟩
        case measure => simp [intOf]; omega
      · have HVp := Lib.hid hv
        clear hv
        obtain ⟨a0, a1, a2, a3, a4⟩ := VAt.of_blk K3.out
        have hlo : w.heap.size ≤ w3.heap.size := J3.out.bel.size
        have LK := Lib.hid (J3.out.step ((Below.refl w3.heap.size w3).alloc (Nat.le_refl _) (Obj.cells (arrS (ptP p)) 210)))
        go_wp2_with (at_builtin; refine wpList_append_any _ rfl _ _ 206 rfl w.heap.size 210 j0 (aggS (((VC.zero, Val.zero), false), ((VC.zero, Val.zero), false))) 12 176 Tryz.underlying206 hj0 hy0 hy1 hy2 rfl (by decide) u3 xs.length (flat recS xs) rfl LK.out.own _ _ 1 _ (recS (ptP p)) rfl ⟨rfl, fun _ => ⟨_, rfl, Nat.lt_succ_self _, news_at _ _ _⟩⟩ (recS_one _) (by unfold maxLen; omega) (by omega) (le_alloc hlo _) ?_)
        intro v' w4 hown hg _
        have HI := Lib.hid (LK.out.next HP.out HVp.out HR.out hg rfl hown)
        clear hown hg a0 a1 a2 a3 a4
        go_wp2_with fail
        go_roundw
        case rel => exact ⟨i + 1, xs ++ [ptP p], by omega, by go_num, HI.out⟩
        case measure => simp [intOf]; omega
    · obtain ⟨A1, c1, rfl, hs⟩ := SS.of_own J.out.own rfl (by have := J.out.le; unfold reach; omega) (fun x hx => (J.out.ok x hx).step J.out.bel)
      have hle := I.le
      have HX : Hid (xs.map spP = spansL (ps.map fun p => ptIv p.2)) := by rw [Hid, J.out.eq, List.take_of_length_le (by have := HL.out; omega)]
      have hne : ∀ x ∈ xs, cmC (spP x).1 (spP x).2 < 0 ∧ VC1 (spP x).1 ∧ VC1 (spP x).2 := fun x hx => spansL_ne _ (by rw [← HX.out]; exact List.mem_map_of_mem hx)
      have HNe := Lib.hid hne
      have HS1 := Lib.hid hs
      have HB1 := Lib.hid J.out.bel
      obtain ⟨m1, hm1⟩ : ∃ m, m = xs.length := ⟨_, rfl⟩
      rw [← hm1] at HS1 hle ⊢
      have HM1 := Lib.hid hm1
      clear I J hs hne hm1
      go_wp2_with fail
      refine (merged_any xs A1 m1 c1 _ HS1.out (by have := HN1.out; omega)).mono ?_
      rintro e w2 ⟨A2, m2, c2, ys, rfl, ⟨S, hS, hys⟩, _, _, hss2, hm2, hb2⟩
      have HY := Lib.hid (hS.merge HNe.out)
      rw [← hys] at HY
      have HS2 := Lib.hid hss2
      have HB2 := Lib.hid (HB1.out.step' hb2)
      have HY2 := Lib.hid hss2.sr.ln
      have HM2 : Hid (m2 ≤ n) := by have := HM1.out; unfold Hid; omega
      have hm2n : m2 ≤ 100000 := by have := HM2.out; omega
      clear hS hys hss2 hm2 hb2
      go_wp2_with fail
      refine (intervals_any ys A2 m2 c2 _ HS2.out hm2n).mono ?_
      rintro e w3 ⟨A3, m3, c3, zs, rfl, hzs, hsi, hb3⟩
      have HZ := Lib.hid hzs
      have HS3 := Lib.hid hsi
      have HB3 := Lib.hid (HB2.out.step' hb3)
      have HZ3 := Lib.hid hsi.sr.ln
      clear hzs hsi hb3
      go_wp2_with fail
      go_ret
      refine ⟨A3, m3, c3, zs, ys.map spP, rfl, by rw [HZ.out, List.map_map]; rfl, ?_, ?_, HS3.out, HB3.out⟩
      · have := HY.out.1
        rw [HX.out] at this
        exact this
      · have h1 := congrArg List.length HZ.out
        simp only [List.length_map] at h1
        have := HZ3.out; have := HY2.out; have := HM2.out
        omega

def cMin : VC := ⟨1, 0, ByteArray.empty, none, 0, 0, none, 0, 0⟩
def cMax : VC := ⟨11, 0, ByteArray.empty, none, 0, 0, none, 0, 0⟩
theorem rw_min (w : World) : RW w cMin vMin := RVs.shut ⟨rfl, rfl, rfl, by decide, rfl, Nat.le_refl _, by decide, fun h => absurd h (by decide), rfl, Nat.le_refl _, by decide, fun h => absurd h (by decide)⟩
theorem rw_max (w : World) : RW w cMax vMax := RVs.shut ⟨rfl, rfl, rfl, by decide, rfl, Nat.le_refl _, by decide, fun h => absurd h (by decide), rfl, Nat.le_refl _, by decide, fun h => absurd h (by decide)⟩
theorem valid_min : validV vMin = true := valid_leaf (.inl rfl)
theorem valid_max : validV vMax = true := valid_leaf (.inr rfl)
def allIv : Iv := ⟨vMin, vMax, true, true⟩
theorem min_lt_max : cmC (vMin, false) (vMax, true) < 0 := by
  rw [cmC_ne (a := (vMin, false)) (b := (vMax, true)) (by rw [cmpV_kind (by decide)]; decide)]
  show cmpV vMin vMax < 0
  rw [cmpV_kind (by decide)]; decide
def pAll : PI := (((cMin, vMin), (cMax, vMax)), (true, true))
theorem all_nf : IsNF (fun a => inS cmC a (spansL [allIv])) [((vMin, false), (vMax, true))] := by
  have hne : allIv.ne = true := by
    unfold Iv.ne
    rw [decide_eq_true (show cmC allIv.sp.1 allIv.sp.2 < 0 from min_lt_max)]
    show (validV vMin && validV vMax && true) = true
    rw [valid_min, valid_max]; rfl
  have e : spansL [allIv] = [((vMin, false), (vMax, true))] := by unfold spansL; rw [List.filter_cons_of_pos hne]; rfl
  refine ⟨⟨fun s hs => ?_, by simp⟩, fun a => by rw [e]⟩
  simp at hs
  subst hs
  exact ⟨min_lt_max, valid_min, valid_max⟩
theorem si_one {w : World} {g : Nat} {p : PI} (h : Blk w g 156 (arrI p)) (hok : okI w p) : SI w (some ⟨g, 0, none⟩) 1 1 [p] := by
  refine ⟨⟨rfl, Nat.le_refl _, fun _ => ⟨g, 0, rfl, h.lt, fun i a hi j v hj => ?_⟩⟩, by decide, fun x hx => by simp at hx; subst hx; exact hok⟩
  cases i with
  | zero =>
    simp at hi
    subst hi
    rw [show 0 + 0 * 12 + j = j by omega, h.cell, ← Array.getElem?_toList]
    exact hj
  | succ i => simp at hi
set_option maxHeartbeats 400000 in
theorem all_any (w : World) : Calls Tryz.prog 148 #[] w (NormOk (fun a => inS cmC a (spansL [allIv])) 1 w) := by
  go_enter Tryz.func148, Tryz.ntmps148
  go_wp2_with fail
  go_ret
  exact ⟨_, 1, 1, [pAll], _, rfl, rfl, all_nf, Nat.le_refl _, si_one (Blk.new_at rfl) ⟨rw_min _, rw_max _⟩, (Below.refl _ _).alloc (Nat.le_refl _) _⟩

end Go.Proofs.YtlmmgjgkmbmgpaaGreatDoor

/- shardkey.joined at one range; shardkey.span at the interval of one value and at the interval of all values. -/
namespace Go.Proofs.YtlmmgjgkmbmgpaaGreatDoor
open Go.RowKit

abbrev BB := ByteArray × ByteArray
def rec2 (p : BB) : List Value := [.string p.1, .string p.2]
theorem rec2_length (p : BB) : (rec2 p).length = 2 := rfl
theorem rec2_one (p : BB) : ∀ u ∈ rec2 p, u.oneCell' = true := by simp [rec2, Value.oneCell']
theorem info_pair : (Tryz.prog.info? 111).map (fun i => (i.zero, i.size, i.bytes)) = some (some (.agg #[.string ByteArray.empty, .string ByteArray.empty]), 2, 32) := by kernel_rfl
theorem own_sr2 {w : World} {base : Nat} {v : Value} {p : BB} (h : w.ownsRow base 111 2 v 1 (rec2 p)) : ∃ A c, v = .slice A 1 c ∧ SR 2 rec2 w A 1 c [p] := by
  obtain ⟨A, c, hv, hle⟩ := own_slice h
  subst hv
  refine ⟨A, c, rfl, rfl, hle, fun hn => ?_⟩
  obtain ⟨g, cap, hv, _, hlt⟩ := h.form hn
  have hA : A = some ⟨g, 0, none⟩ := by injection hv
  subst hA
  refine ⟨g, 0, rfl, hlt, fun k a hk j u hj => ?_⟩
  cases k with
  | zero =>
    simp at hk
    subst hk
    have := h.cells (g := g) rfl j u hj
    rw [addr_add] at this
    simpa using this
  | succ k => simp at hk
theorem SR.at22 {w : World} {A : Option Addr} {n c : Nat} {l : List BB} (h : SR 2 rec2 w A n c l) {i : Nat} (hi : i < n) : ∃ b off x, A = some ⟨b, off, none⟩ ∧ b < w.heap.size ∧ l[i]? = some x ∧
    w.cell? ⟨b, off + i * 2, none⟩ = some (.string x.1) ∧ w.cell? ⟨b, off + i * 2 + 1, none⟩ = some (.string x.2) := by
  obtain ⟨b, off, e, hb, hc⟩ := h.el (by omega)
  have hl : i < l.length := by have := h.ln; omega
  have h1 := List.getElem?_eq_getElem hl
  exact ⟨b, off, l[i], e, hb, h1, hc i _ h1 0 _ rfl, hc i _ h1 1 _ rfl⟩

/-- the loop of joined -/
def JoI (w : World) (p : BB) (i : Nat) (v : Value) (wr : World) : Prop :=
  Below w.heap.size w wr ∧ ((i = 0 ∧ v = .slice none 0 0) ∨ (i = 1 ∧ wr.ownsRow w.heap.size 111 2 v 1 (rec2 p)))

set_option maxRecDepth 100000 in
set_option maxHeartbeats 2000000 in
theorem joined1_any (p : BB) (A : Option Addr) (c : Nat) (w : World) (h : SR 2 rec2 w A 1 c [p]) :
    Calls Tryz.prog 109 #[.slice A 1 c] w fun e w' => ∃ A' c', e = .returned (.slice A' 1 c') ∧ SR 2 rec2 w' A' 1 c' [p] ∧ Below w.heap.size w w' := by
  obtain ⟨j0, hj0, hy0, hy1, hy2⟩ := info_parts info_pair
  obtain ⟨b, off, x, hA, hb, hx, e0, e1⟩ := h.at22 (i := 0) (by omega)
  obtain rfl : p = x := by simpa using hx
  subst hA
  rw [Nat.zero_mul, Nat.add_zero] at e0 e1
  clear hx h
  go_enter Tryz.func109, Tryz.ntmps109
  go_wp2_with fail
  refine (sstable1_any _ _ _ _).mono ?_
  rintro e w1 ⟨rfl, hw1⟩
  subst hw1
  go_wp2_with fail
  refine (compact1_any _ _ _).mono ?_
  rintro e w2 ⟨rfl, hw2⟩
  subst hw2
  go_upto_region 4 with fail
  go_loopw [3, 5, 6, 12] (fun u3 _ _ u12 wr => ∃ i : Nat, i ≤ 1 ∧ u12 = .int .i64 i ∧ JoI w2 p i u3 wr) (fun _ _ _ u12 _ => 1 - (intOf u12).toNat)
  case atStart => exact ⟨0, by omega, rfl, Below.refl _ _, .inl ⟨rfl, rfl⟩⟩
  case round =>
    obtain ⟨i, hi, rfl, hbel, hj⟩ := hrel
    have HB := Lib.hid hbel
    rcases hj with ⟨rfl, rfl⟩ | ⟨rfl, hown⟩
    · replace e0 := (hbel.cell (p := ⟨b, off, none⟩) hb).trans e0
      replace e1 := (hbel.cell (p := ⟨b, off + 1, none⟩) hb).trans e1
      clear hbel
      go_upto_region 7 with fail
      change (Code.region 7 _ _).wp _ _ _ (wr.alloc (Obj.cells #[.string p.1, .string p.2] 111))
      have JB : Hid (Blk (wr.alloc (Obj.cells #[.string p.1, .string p.2] 111)) wr.heap.size 111 #[.string p.1, .string p.2]) := Blk.new_at rfl
      have HBA := Lib.hid (HB.out.alloc HB.out.size (Obj.cells #[.string p.1, .string p.2] 111))
      generalize wr.alloc (Obj.cells #[.string p.1, .string p.2] 111) = wa at *
      generalize wr.heap.size = ga at *
      clear e0 e1
      refine wp_region_bw (by kernel_rfl) (by kernel_rfl) ?_
      repeat (go_big_quiet_step (fail))
      refine wpQuiet_nil ?_
      rintro _ ⟨kw, rfl⟩
      have HB3 := Lib.hid (HBA.out.step' kw.below)
      have JB3 := Lib.hid (JB.out.step kw.below)
      clear HBA JB
      generalize kw.val = w3 at *
      have k0 := JB3.out.cell 0
      have k1 := JB3.out.cell 1
      simp at k0 k1
      have hlo : w2.heap.size ≤ w3.heap.size := HB3.out.size
      go_wp2_with (at_builtin; refine wpList_append_any _ rfl _ _ 124 rfl w2.heap.size 111 j0 (.agg #[.string ByteArray.empty, .string ByteArray.empty]) 2 32 Tryz.underlying124 hj0 hy0 hy1 hy2 rfl (by decide) (.slice none 0 0) 0 [] rfl (own_nil _ _ _ _) _ _ 1 _ (rec2 p) rfl ⟨rfl, fun _ => ⟨_, rfl, Nat.lt_succ_self _, news_at _ _ _⟩⟩ (rec2_one _) (by unfold maxLen; omega) (by omega) (le_alloc hlo _) ?_)
      intro v' w6 hown hgr hat
      have HI : Hid (JoI w2 p 1 v' w6) := ⟨(HB3.out.alloc HB3.out.size _).grown hgr (le_alloc hlo _) (fun g hg => (by cases hg)), .inr ⟨rfl, hown⟩⟩
      clear hown hgr hat k0 k1 JB3 HB3
      go_wp2_with fail
      go_roundw
      case rel => exact ⟨1, by omega, rfl, HI.out⟩
      case measure => simp [intOf]
    · obtain ⟨A', c', rfl, hsr⟩ := own_sr2 hown
      have HS := Lib.hid hsr
      clear hown hsr hbel
      go_wp2_with fail
      go_ret
      exact ⟨A', c', rfl, HS.out, HB.out⟩

theorem results_pair_ok {fn : Func} {p u : Tmp} (h : fn.results = #[.cell p 111, .tmp u]) (tmps : Array Value) (g1 off : Nat) (h1 : tmps.getD p undef = .pointer (some ⟨g1, off, none⟩)) (e : Value) (h2 : tmps.getD u undef = e)
    (W : World) (a b : ByteArray) (q0 : W.cell? ⟨g1, off, none⟩ = some (.string a)) (q1 : W.cell? ⟨g1, off + 1, none⟩ = some (.string b)) :
    (results fn tmps).run Tryz.prog W = .ok (.tuple #[.agg #[.string a, .string b], e]) W := by
  rw [results_cell_tmp h, h1, h2]
  simp [asAddr, go_sem, q0, q1]

set_option maxRecDepth 100000 in
set_option maxHeartbeats 4000000 in
theorem span1_any (p : PI) (S1 S2 T L H : ByteArray) (w : World) (hT : Tabs w) (hp : okI w p) (hf : p.2 = (true, true)) (h1 : keyR [p.1.1.2] = (S1, 0)) (h2 : keyR [p.1.2.2] = (S2, 0))
    (hk : (p.1.1.1.k ≠ 1 ∧ p.1.2.1.k ≠ 11 ∧ L = S1 ∧ H = T) ∨ (p.1.1.1.k = 1 ∧ p.1.2.1.k = 11 ∧ L = ByteArray.empty ∧ H = ByteArray.empty))
    (hA : ∀ w, Calls Tryz.prog 156 #[.string S2] w fun e w' => e = .returned (.tuple #[.string T, .bool true]) ∧ Below w.heap.size w w') :
    Calls Tryz.prog 108 #[aggI p, .bool false] w fun e w' => e = .returned (.tuple #[.agg #[.string L, .string H], .bool true]) ∧ Below w.heap.size w w' := by
  obtain ⟨⟨⟨c1, x1⟩, ⟨c2, x2⟩⟩, ⟨f1, f2⟩⟩ := p
  simp only [Prod.mk.injEq] at hf
  obtain ⟨rfl, rfl⟩ := hf
  have R1 : Hid (RW w c1 x1) := hp.1
  have R2 : Hid (RW w c2 x2) := hp.2
  have HT := Lib.hid hT
  have HA := Lib.hid hA
  have HK1 : Hid (keyR [x1] = (S1, 0)) := h1
  have HK2 : Hid (keyR [x2] = (S2, 0)) := h2
  clear hp hT hA h1 h2
  have hcode1 : Hid (∀ wr, Below w.heap.size w wr → Calls Tryz.prog 110 #[c1.val] wr fun e w' => e = .returned (.tuple #[.string S1, .int .i64 0]) ∧ Below wr.heap.size wr w') := Lib.hid fun wr hb => by
    have := code_any x1 c1 wr (HT.out.step hb) (R1.out.step hb)
    rw [HK1.out] at this
    exact this
  have hcode2 : Hid (∀ wr, Below w.heap.size w wr → Calls Tryz.prog 110 #[c2.val] wr fun e w' => e = .returned (.tuple #[.string S2, .int .i64 0]) ∧ Below wr.heap.size wr w') := Lib.hid fun wr hb => by
    have := code_any x2 c2 wr (HT.out.step hb) (R2.out.step hb)
    rw [HK2.out] at this
    exact this
  have B0 : Hid (Blk ((w.alloc (Obj.cells (arrI (((c1, x1), (c2, x2)), (true, true))) 156)).alloc (Obj.cells #[.string ByteArray.empty, .string ByteArray.empty] 111)) w.heap.size 156 (arrI (((c1, x1), (c2, x2)), (true, true)))) := (Blk.new_at rfl).alloc _
  have B1 : Hid (Blk ((w.alloc (Obj.cells (arrI (((c1, x1), (c2, x2)), (true, true))) 156)).alloc (Obj.cells #[.string ByteArray.empty, .string ByteArray.empty] 111)) (w.heap.size + 1) 111 #[.string ByteArray.empty, .string ByteArray.empty]) := Blk.new_at (by simp)
  have BE : Hid (Below w.heap.size w ((w.alloc (Obj.cells (arrI (((c1, x1), (c2, x2)), (true, true))) 156)).alloc (Obj.cells #[.string ByteArray.empty, .string ByteArray.empty] 111))) := ((Below.refl _ _).alloc (Nat.le_refl _) _).alloc (by simp) _
  go_enter Tryz.func108, Tryz.ntmps108
  go_upto_region 1 with fail
  change Code.wp _ _ _ _ ((w.alloc (Obj.cells (arrI (((c1, x1), (c2, x2)), (true, true))) 156)).alloc (Obj.cells #[.string ByteArray.empty, .string ByteArray.empty] 111))
  generalize ((w.alloc (Obj.cells (arrI (((c1, x1), (c2, x2)), (true, true))) 156)).alloc (Obj.cells #[.string ByteArray.empty, .string ByteArray.empty] 111)) = wa at *
  obtain ⟨⟨a0, a1, a2, a3, a4⟩, ⟨b0, b1, b2, b3, b4⟩, b5, b6⟩ := IAt.of_blk B0.out
  simp only [Nat.zero_add] at a0 a1 a2 a3 a4 b0 b1 b2 b3 b4 b5 b6
  go_wp2_with fail
  refine (hcode1.out _ BE.out).mono ?_
  rintro e w1 ⟨rfl, hb⟩
  have C0 := Lib.hid (B0.out.step hb)
  have C1 := Lib.hid (B1.out.step hb)
  have CE := Lib.hid (BE.out.step' hb)
  clear hb B0 B1 BE a0 a1 a2 a3 a4 b0 b1 b2 b3 b4 b5 b6 hcode1
  obtain ⟨⟨a0, a1, a2, a3, a4⟩, ⟨b0, b1, b2, b3, b4⟩, b5, b6⟩ := IAt.of_blk C0.out
  simp only [Nat.zero_add] at a0 a1 a2 a3 a4 b0 b1 b2 b3 b4 b5 b6
  go_wp2_with fail
  refine (hcode2.out _ CE.out).mono ?_
  rintro e w2 ⟨rfl, hb⟩
  have D0 := Lib.hid (C0.out.step hb)
  have D1 := Lib.hid (C1.out.step hb)
  have DE := Lib.hid (CE.out.step' hb)
  clear hb C0 C1 CE a0 a1 a2 a3 a4 b0 b1 b2 b3 b4 b5 b6 hcode2
  obtain ⟨⟨a0, a1, a2, a3, a4⟩, ⟨b0, b1, b2, b3, b4⟩, b5, b6⟩ := IAt.of_blk D0.out
  simp only [Nat.zero_add] at a0 a1 a2 a3 a4 b0 b1 b2 b3 b4 b5 b6
  rcases hk with ⟨k1, k2, rfl, rfl⟩ | ⟨k1, k2, rfl, rfl⟩
  · have k1b : (c1.k == 1) = false := by simpa using k1
    have k2b : (c2.k == 11) = false := by simpa using k2
    go_wp2_with fail
    refine (HA.out _).mono ?_
    rintro e w3 ⟨rfl, hb⟩
    have E1 := Lib.hid (D1.out.step hb)
    have EE := Lib.hid (DE.out.step' hb)
    clear hb D0 D1 DE a0 a1 a2 a3 a4 b0 b1 b2 b3 b4 b5 b6
    have r0 := E1.out.cell 0
    have r1 := E1.out.cell 1
    have rz := E1.out.frozen
    simp at r0 r1
    go_wp2_with fail
    refine bodyPost_ret (results_pair_ok rfl _ _ _ rfl _ rfl _ L H ?_ ?_) rfl ⟨rfl, (EE.out.setCell (by show w.heap.size ≤ w.heap.size + 1; omega) _).setCell (by show w.heap.size ≤ w.heap.size + 1; omega) _⟩
    · rw [((E1.out.set_ 0 (.string L)).set_ 1 (.string H)).cell]; rfl
    · rw [((E1.out.set_ 0 (.string L)).set_ 1 (.string H)).cell]; rfl
  · have k1b : (c1.k == 1) = true := by simpa using k1
    have k2b : (c2.k == 11) = true := by simpa using k2
    have r0 := D1.out.cell 0
    have r1 := D1.out.cell 1
    have rz := D1.out.frozen
    simp at r0 r1
    go_wp2_with fail
    refine bodyPost_ret (results_pair_ok rfl _ _ _ rfl _ rfl _ ByteArray.empty ByteArray.empty ?_ ?_) rfl ⟨rfl, (DE.out.setCell (by show w.heap.size ≤ w.heap.size + 1; omega) _).setCell (by show w.heap.size ≤ w.heap.size + 1; omega) _⟩
    · exact (((D1.out.set_ 0 (.string ByteArray.empty)).set_ 1 (.string ByteArray.empty)).cell 0).trans rfl
    · exact (((D1.out.set_ 0 (.string ByteArray.empty)).set_ 1 (.string ByteArray.empty)).cell 1).trans rfl

end Go.Proofs.YtlmmgjgkmbmgpaaGreatDoor

/- An operation of a region, by its place. -/
namespace Go.Proofs.YtlmmgjgkmbmgpaaGreatDoor
open Go.RowKit
theorem take_at {l rest : List Oper} {i : Nat} {o : Oper} (h : l.drop i = o :: rest) : l.toArray[i]? = some o := by
  have := congrArg List.head? h
  rw [List.head?_drop] at this
  simpa using this
end Go.Proofs.YtlmmgjgkmbmgpaaGreatDoor

/- bounds.Of and shardkey.Ranges at the two predicates of the first checks. Printed by gen_shof.py. -/
namespace Go.Proofs.YtlmmgjgkmbmgpaaGreatDoor
open Go.RowKit

abbrev predA (op : Int) (PA : Option Addr) (pn pc : Nat) (a : VC) : Array Value := #[.int .i64 op, .slice PA pn pc, .int .i64 a.k, .int .i64 a.n, .string a.t, .slice a.LA a.ln a.lc, .slice a.DA a.dn a.dc, .slice none 0 0, .int .i64 0, .int .i64 0, .int .i64 0, .slice none 0 0, .int .i64 0, .int .i64 0, .slice none 0 0, .string ByteArray.empty, .slice none 0 0, .int .i64 0, .int .i64 0, .string ByteArray.empty, .slice none 0 0, .slice none 0 0, .int .i64 0, .slice none 0 0, .slice none 0 0]
abbrev predV (op : Int) (PA : Option Addr) (pn pc : Nat) (a : VC) : Value := .agg (predA op PA pn pc a)

theorem pt_nf {x : Val} (h : validV x = true) : IsNF (fun a => inS cmC a (spansL [ptIv x])) [((x, false), (x, true))] := by
  have hne : (ptIv x).ne = true := by rw [pt_ne]; exact h
  have e : spansL [ptIv x] = [((x, false), (x, true))] := by unfold spansL; rw [List.filter_cons_of_pos hne]; rfl
  refine ⟨⟨fun s hs => ?_, by simp⟩, fun a => by rw [e]⟩
  rw [← e] at hs
  exact spansL_ne s hs
/-- one interval is handed back -/
def OneOk (q : Iv) (b : Bool) (w : World) (e : Ending) (w' : World) : Prop :=
  ∃ (A : Option Addr) (c : Nat) (p : PI), e = .returned (.tuple #[.slice A 1 c, .bool b]) ∧ ivP p = q ∧ SI w' A 1 c [p] ∧ Below w.heap.size w w'
theorem norm_one {S : Cut → Prop} {s : Cut × Cut} {k : Nat} {w : World} {e : Ending} {w' : World} (h : NormOk S k w e w') (hs : IsNF S [s]) :
    ∃ (A : Option Addr) (c : Nat) (p : PI), e = .returned (.slice A 1 c) ∧ ivP p = ivOf s ∧ SI w' A 1 c [p] ∧ Below w.heap.size w w' := by
  obtain ⟨A, m, c, ys, n, he, hy, hn, _, hsi, hb⟩ := h
  have hn' := hn.unique hs fun a _ => Iff.rfl
  subst hn'
  have hl := congrArg List.length hy
  simp only [List.length_map, List.length_cons, List.length_nil] at hl
  obtain ⟨p, rfl⟩ := List.length_eq_one_iff.1 hl
  have hm := hsi.sr.ln
  simp only [List.length_cons, List.length_nil] at hm
  subst hm
  refine ⟨A, c, p, he, ?_, hsi, hb⟩
  simpa using hy

set_option maxRecDepth 100000 in
set_option maxHeartbeats 4000000 in
theorem of_eq (x : Val) (a : VC) (PA QA : Option Addr) (pn pc qn qc : Nat) (l : List ByteArray) (w : World) (hT : Tabs w) (ha : RW w a x) (hx : validV x = true) (h6 : a.k ≠ 6) (h2 : a.k ≠ 2) (hp : ST w PA pn pc l) (hq : ST w QA qn qc l) (hs : sameP l l = true) :
    Calls Tryz.prog 106 #[predV 2 PA pn pc a, .slice QA qn qc] w (OneOk (ptIv x) true w) := by
  have HT := Lib.hid hT
  have HX := Lib.hid ha
  have HV := Lib.hid hx
  have HE := Lib.hid (equal_any l l PA QA pn pc qn qc)
  rw [hs] at HE
  have HP := Lib.hid hp
  have HQ := Lib.hid hq
  have k6 : (a.k != 6) = true := by simpa using h6
  have k2 : (a.k != 2) = true := by simpa using h2
  have B0 : Hid (Blk (w.alloc (Obj.cells (predA 2 PA pn pc a) 63)) w.heap.size 63 (predA 2 PA pn pc a)) := Blk.new_at rfl
  have BE := Lib.hid ((Below.refl w.heap.size w).alloc (Nat.le_refl _) (Obj.cells (predA 2 PA pn pc a) 63))
  clear hT ha hx hp hq hs h6 h2
  go_enter Tryz.func106, Tryz.ntmps106
  go_upto_region 1 with fail
  change Code.wp _ _ _ _ (w.alloc (Obj.cells (predA 2 PA pn pc a) 63))
  generalize w.alloc (Obj.cells (predA 2 PA pn pc a) 63) = wa at *
  have p0 := B0.out.cell 0
  have p1 := B0.out.cell 1
  have p2 := B0.out.cell 2
  have p3 := B0.out.cell 3
  have p4 := B0.out.cell 4
  have p5 := B0.out.cell 5
  have p6 := B0.out.cell 6
  simp at p0 p1 p2 p3 p4 p5 p6
  go_wp2_with fail
  refine (HE.out wa (HP.out.step BE.out) (HQ.out.step BE.out)).mono ?_
  rintro e w1 ⟨rfl, hb⟩
  have C0 := Lib.hid (B0.out.step hb)
  have CE := Lib.hid (BE.out.step' hb)
  clear hb B0 BE HE HP HQ p0 p1 p2 p3 p4 p5 p6
  have p0 := C0.out.cell 0
  have p1 := C0.out.cell 1
  have p2 := C0.out.cell 2
  have p3 := C0.out.cell 3
  have p4 := C0.out.cell 4
  have p5 := C0.out.cell 5
  have p6 := C0.out.cell 6
  simp at p0 p1 p2 p3 p4 p5 p6
  go_upto_region 11 with fail
  have B := Lib.hid ((Below.refl w1.heap.size w1).drewN 1)
  have KS : Hid (∀ w', Below w1.heap.size w1 w' → w'.cell? ⟨w.heap.size, 2, none⟩ = some (.int .i64 a.k) ∧ w'.cell? ⟨w.heap.size, 3, none⟩ = some (.int .i64 a.n) ∧ w'.cell? ⟨w.heap.size, 4, none⟩ = some (.string a.t) ∧ w'.cell? ⟨w.heap.size, 5, none⟩ = some (.slice a.LA a.ln a.lc) ∧ w'.cell? ⟨w.heap.size, 6, none⟩ = some (.slice a.DA a.dn a.dc)) := Lib.hid fun w' hb => ⟨(hb.cell (p := ⟨w.heap.size, 2, none⟩) C0.out.lt).trans p2, (hb.cell (p := ⟨w.heap.size, 3, none⟩) C0.out.lt).trans p3, (hb.cell (p := ⟨w.heap.size, 4, none⟩) C0.out.lt).trans p4, (hb.cell (p := ⟨w.heap.size, 5, none⟩) C0.out.lt).trans p5, (hb.cell (p := ⟨w.heap.size, 6, none⟩) C0.out.lt).trans p6⟩
  clear p0 p1 p2 p3 p4 p5 p6
  go_region_held3 (fun w' => w'.cell? ⟨w.heap.size, 2, none⟩ = some (.int .i64 a.k) ∧ w'.cell? ⟨w.heap.size, 3, none⟩ = some (.int .i64 a.n) ∧ w'.cell? ⟨w.heap.size, 4, none⟩ = some (.string a.t) ∧ w'.cell? ⟨w.heap.size, 5, none⟩ = some (.slice a.LA a.ln a.lc) ∧ w'.cell? ⟨w.heap.size, 6, none⟩ = some (.slice a.DA a.dn a.dc))
    (first | exact KS.out _ B.out | exact KS.out _ (B.out.alloc B.out.size _) | ((try dsimp only); assumption) | go_keep)
    ((go_at_call 149; refine (points_any [(a, x)] _ 1 1 _ (HT.out.step (CE.out.step' (B.out.alloc B.out.size _))) (sl_one (Blk.new_at rfl) (HX.out.step (CE.out.step' (B.out.alloc B.out.size _)))) (by omega)).mono ?_; rintro e3 w3 hno; obtain ⟨A3, c3, p3, rfl, hp3, hsi, hb⟩ := norm_one hno (pt_nf HV.out); replace B := Lib.hid ((B.out.alloc B.out.size _).step' hb); have HS3 := Lib.hid hsi; have HP3 := Lib.hid hp3; clear hb hsi hp3 hno))
  all_goals
    go_wp2_with fail
    go_ret2
    exact ⟨A3, c3, p3, rfl, HP3.out, HS3.out, CE.out.step' B.out⟩

set_option maxRecDepth 100000 in
set_option maxHeartbeats 4000000 in
theorem of_true (QA : Option Addr) (qn qc : Nat) (l : List ByteArray) (w : World) (hq : ST w QA qn qc l) (hs : sameP [] l = false) :
    Calls Tryz.prog 106 #[predV 1 none 0 0 VC.zero, .slice QA qn qc] w (OneOk allIv false w) := by
  have HE := Lib.hid (equal_any [] l none QA 0 0 qn qc)
  rw [hs] at HE
  have HQ := Lib.hid hq
  have B0 : Hid (Blk (w.alloc (Obj.cells (predA 1 none 0 0 VC.zero) 63)) w.heap.size 63 (predA 1 none 0 0 VC.zero)) := Blk.new_at rfl
  have BE := Lib.hid ((Below.refl w.heap.size w).alloc (Nat.le_refl _) (Obj.cells (predA 1 none 0 0 VC.zero) 63))
  clear hq hs
  go_enter Tryz.func106, Tryz.ntmps106
  go_upto_region 1 with fail
  change Code.wp _ _ _ _ (w.alloc (Obj.cells (predA 1 none 0 0 VC.zero) 63))
  generalize w.alloc (Obj.cells (predA 1 none 0 0 VC.zero) 63) = wa at *
  have p0 := B0.out.cell 0
  have p1 := B0.out.cell 1
  simp at p0 p1
  go_wp2_with fail
  refine (HE.out wa ⟨SR.nil, by show 0 * 16 ≤ reach; decide, by simp⟩ (HQ.out.step BE.out)).mono ?_
  rintro e w1 ⟨rfl, hb⟩
  have CE := Lib.hid (BE.out.step' hb)
  clear hb B0 BE HE HQ p0 p1
  go_wp2_with fail
  refine (all_any w1).mono ?_
  rintro e w3 hno
  obtain ⟨A3, c3, p3, rfl, hp3, hsi, hb⟩ := norm_one hno all_nf
  have HS3 := Lib.hid hsi
  have HP3 := Lib.hid hp3
  have EE := Lib.hid (CE.out.step' hb)
  clear hno hb hsi hp3
  go_wp2_with fail
  go_ret2
  exact ⟨A3, c3, p3, rfl, HP3.out, HS3.out, EE.out⟩

end Go.Proofs.YtlmmgjgkmbmgpaaGreatDoor
