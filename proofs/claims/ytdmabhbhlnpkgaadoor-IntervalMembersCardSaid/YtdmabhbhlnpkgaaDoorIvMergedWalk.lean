/- The walk of interval.merged. -/
import Derived.Test.YtdmabhbhlnpkgaaDoorIvMerged
namespace Go.Proofs.YtdmabhbhlnpkgaaDoor
open Go.RowKit

/-- the loop of merged: S the sorted spans, w2 the world in which they are sorted -/
structure MgI (w w2 : World) (S : List PS) (i : Nat) (v : Value) (cs : List PS) (wr : World) : Prop where
  own : wr.ownsRow w2.heap.size 54 12 v cs.length (flat recS cs)
  eq : cs.map spP = mergeS cmC ((S.take i).map spP)
  le : cs.length ≤ i
  ok : ∀ x ∈ cs, okS w x
  pr : ∀ x ∈ cs, (∃ y ∈ S, x.1 = y.1) ∧ ∃ y ∈ S, x.2 = y.2
  bel : Below w2.heap.size w2 wr
section
variable {w w2 : World} {S : List PS} {i : Nat} {v : Value} {cs : List PS} {wr w' : World}
theorem MgI.step (h : MgI w w2 S i v cs wr) (hb : Below wr.heap.size wr w') : MgI w w2 S i v cs w' := ⟨own_step h.own hb, h.eq, h.le, h.ok, h.pr, h.bel.step' hb⟩
theorem stepS_app {α : Type} {cm : α → α → Int} {c : List (α × α)} {s : α × α} (h : c = [] ∨ ∃ d l, c = d ++ [l] ∧ cm l.2 s.1 < 0) : stepS cm c s = c ++ [s] := by
  rcases h with rfl | ⟨d, l, rfl, h⟩
  · rfl
  · unfold stepS
    have e0 : (d ++ [l]).getLast? = some l := by simp
    rw [e0]; simp only; rw [if_pos h]
theorem stepS_up {α : Type} {cm : α → α → Int} {d : List (α × α)} {l s : α × α} (h1 : ¬ cm l.2 s.1 < 0) (h2 : cm l.2 s.2 < 0) : stepS cm (d ++ [l]) s = d ++ [(l.1, s.2)] := by
  unfold stepS
  have e0 : (d ++ [l]).getLast? = some l := by simp
  rw [e0]; simp only; rw [if_neg h1, if_pos h2, List.dropLast_concat]
theorem stepS_no {α : Type} {cm : α → α → Int} {d : List (α × α)} {l s : α × α} (h1 : ¬ cm l.2 s.1 < 0) (h2 : ¬ cm l.2 s.2 < 0) : stepS cm (d ++ [l]) s = d ++ [l] := by
  unfold stepS
  have e0 : (d ++ [l]).getLast? = some l := by simp
  rw [e0]; simp only; rw [if_neg h1, if_neg h2]
theorem MgI.same (h : MgI w w2 S i v cs wr) {p : PS} (hp : S[i]? = some p) (hs : stepS cmC (cs.map spP) (spP p) = cs.map spP) : MgI w w2 S (i + 1) v cs wr := by
  refine ⟨h.own, ?_, by have := h.le; omega, h.ok, h.pr, h.bel⟩
  rw [take_snoc' hp, List.map_append, List.map_singleton, mergeS_snoc, ← h.eq, hs]
theorem MgI.add (h : MgI w w2 S i v cs wr) {p : PS} (hp : S[i]? = some p) (hs : stepS cmC (cs.map spP) (spP p) = cs.map spP ++ [spP p]) (hok : okS w p) {v' : Value} {m : Nat} (hg : wr.grownBy w' v.ownBlock) (hm : m = cs.length + 1)
    (ho : w'.ownsRow w2.heap.size 54 12 v' m (flat recS cs ++ recS p)) : MgI w w2 S (i + 1) v' (cs ++ [p]) w' := by
  subst hm
  refine ⟨?_, ?_, by have := h.le; simp; omega, fun x hx => ?_, fun x hx => ?_, h.bel.grown hg h.bel.size (own_ge h.own)⟩
  · rw [flat_snoc, List.length_append]; exact ho
  · rw [take_snoc' hp, List.map_append (l₁ := S.take i), List.map_singleton, mergeS_snoc, ← h.eq, hs, List.map_append]
    rfl
  · rcases List.mem_append.1 hx with hx | hx
    · exact h.ok x hx
    · simp at hx; subst hx; exact hok
  · rcases List.mem_append.1 hx with hx | hx
    · exact h.pr x hx
    · simp at hx; subst hx; exact ⟨⟨x, List.mem_of_getElem? hp, rfl⟩, x, List.mem_of_getElem? hp, rfl⟩
end
/-- six stores of a cut -/
abbrev setC (w : World) (g off : Nat) (q : PC) : World := (setV w g off q.1.1).setCell ⟨g, off + 5, none⟩ (.bool q.2)
theorem own_setC {w : World} {base g n cap : Nat} {t : TypeId} {xs : List Value} (h : w.ownsRow base t 12 (.slice (some ⟨g, 0, none⟩) n cap) n xs) (off : Nat) (q : PC) :
    (setC w g off q).ownsRow base t 12 (.slice (some ⟨g, 0, none⟩) n cap) n (setList xs off (recC q)) := by
  have h1 := (h.stored off (.int .i64 q.1.1.k)).1
  have h2 := (h1.stored (off + 1) (.int .i64 q.1.1.n)).1
  have h3 := (h2.stored (off + 2) (.string q.1.1.t)).1
  have h4 := (h3.stored (off + 3) (.slice q.1.1.LA q.1.1.ln q.1.1.lc)).1
  have h5 := (h4.stored (off + 4) (.slice q.1.1.DA q.1.1.dn q.1.1.dc)).1
  exact (h5.stored (off + 5) (.bool q.2)).1
theorem flat_to (d : List PS) (l : PS) (q : PC) : setList (flat recS (d ++ [l])) (d.length * 12 + 6) (recC q) = flat recS (d ++ [(l.1, q)]) := by
  have e1 : flat recS (d ++ [l]) = (flat recS d ++ recC l.1) ++ recC l.2 := by rw [flat_snoc]; simp [recS]
  have hl : (flat recS d ++ recC l.1).length = d.length * 12 + 6 := by rw [List.length_append, flat_length recS_length, recC_length]
  rw [setList_eq _ _ _ (by rw [e1, List.length_append, hl, recC_length, recC_length]; omega), e1, ← hl, List.take_left, recC_length, List.drop_of_length_le (by rw [List.length_append, recC_length]; omega), List.append_nil, flat_snoc]
  simp [recS]
theorem below_setC {B : Nat} {a w : World} (h : Below B a w) {b : Nat} (hB : B ≤ b) (off : Nat) (q : PC) : Below B a (setC w b off q) := (below_setV h hB off q.1.1).setCell hB _
theorem MgI.put {w w2 : World} {S : List PS} {i g n cap : Nat} {d : List PS} {l p : PS} {wr : World} (h : MgI w w2 S i (.slice (some ⟨g, 0, none⟩) n cap) (d ++ [l]) wr) (hp : S[i]? = some p)
    (hs : stepS cmC ((d ++ [l]).map spP) (spP p) = (d ++ [(l.1, p.2)]).map spP) (hok : okS w p) (hn : n = d.length + 1) : MgI w w2 S (i + 1) (.slice (some ⟨g, 0, none⟩) n cap) (d ++ [(l.1, p.2)]) (setC wr g (d.length * 12 + 6) p.2) := by
  have ho := h.own
  have hl : (d ++ [l]).length = n := by rw [hn]; simp
  rw [hl] at ho
  refine ⟨?_, ?_, by have := h.le; simp at this ⊢; omega, fun x hx => ?_, fun x hx => ?_, below_setC h.bel (own_ge h.own g rfl) _ _⟩
  · rw [← flat_to d l p.2, show (d ++ [(l.1, p.2)]).length = n by rw [hn]; simp]
    exact own_setC ho _ _
  · rw [take_snoc' hp, List.map_append (l₁ := S.take i), List.map_singleton, mergeS_snoc, ← h.eq, hs]
  · rcases List.mem_append.1 hx with hx | hx
    · exact h.ok x (by simp [hx])
    · simp at hx; subst hx; exact ⟨(h.ok l (by simp)).1, hok.2⟩
  · rcases List.mem_append.1 hx with hx | hx
    · exact h.pr x (by simp [hx])
    · simp at hx; subst hx; exact ⟨(h.pr l (by simp)).1, p, List.mem_of_getElem? hp, rfl⟩
/-- the box of a round -/
structure MgB (w w2 : World) (S : List PS) (i : Nat) (v : Value) (cs : List PS) (g : Nat) (p : PS) (wr : World) : Prop where
  i : MgI w w2 S i v cs wr
  b5 : Blk wr g 54 (arrS p)
theorem MgB.step {w w2 : World} {S : List PS} {i : Nat} {v : Value} {cs : List PS} {g : Nat} {p : PS} {wr w' : World} (h : MgB w w2 S i v cs g p wr) (hb : Below wr.heap.size wr w') : MgB w w2 S i v cs g p w' := ⟨h.i.step hb, h.b5.step hb⟩

/-- what merged hands back -/
def MgOk (xs : List PS) (w : World) (e : Ending) (w' : World) : Prop :=
  ∃ (A : Option Addr) (m c : Nat) (ys : List PS), e = .returned (.slice A m c) ∧ (∃ S, SortedBy xs S ∧ ys.map spP = mergeS cmC (S.map spP)) ∧ (∀ y ∈ ys, (∃ x ∈ xs, y.1 = x.1) ∧ ∃ x ∈ xs, y.2 = x.2) ∧ (∀ b off, A = some ⟨b, off, none⟩ → w.heap.size ≤ b) ∧ SS w' A m c ys ∧ m ≤ xs.length ∧ Below w.heap.size w w'

set_option maxRecDepth 100000 in
set_option maxHeartbeats 2000000 in
theorem merged_any (xs : List PS) (A : Option Addr) (n c : Nat) (w : World) (h : SS w A n c xs) (hn : n ≤ 100000) :
    Calls Tryd.prog 34 #[.slice A n c] w (MgOk xs w) := by
  obtain ⟨j0, hj0, hy0, hy1, hy2⟩ := info_parts info_span
  have H := Lib.hid h
  have HL := Lib.hid h.sr.ln
  clear h
  go_enter Tryd.func34, Tryd.ntmps34
  go_wp2_with fail
  refine (cloneSp_any xs A n c _ H.out hn).mono ?_
  rintro e w1 ⟨v1, rfl, hown, hb1⟩
  have HB1 := Lib.hid hb1
  obtain ⟨A1, c1, rfl, hc1⟩ := own_slice hown
  have HO := Lib.hid hown
  clear hown hb1
  have sorted : Hid (Calls Tryd.prog 52 #[.slice A1 n c1, .func (.func 53) #[] #[]] w1 fun e w' => e = .returned (.tuple #[]) ∧ ∃ S, SortedBy xs S ∧ SR 12 recS w' A1 n c1 S ∧ Below w.heap.size w w') := by
    rcases HO.out.2 with ⟨h', h0⟩ | ⟨g, cap, cur, h', hg, _⟩
    · cases h'
      have hx : xs = [] := List.eq_nil_of_length_eq_zero (by have := HL.out; omega)
      refine Lib.hid ((sortSp_nil w1).mono ?_)
      rintro e w' ⟨rfl, rfl⟩
      exact ⟨rfl, [], by rw [hx]; exact ⟨.nil, .nil⟩, SR.nil, HB1.out⟩
    · cases h'
      refine Lib.hid ((sortSp_any (tagFrom 0 xs) g n c1 w1 (SRowSp.of_own HO.out) (by rw [tagFrom_length]; exact HL.out) (by unfold reach; omega) (tagFrom_tagged _ _) ?_).mono ?_)
      · intro x y hx hy wr hbt
        have okx : ∀ z ∈ tagFrom 0 xs, okS wr z.1 := by
          intro z hz
          have hz' : z.1 ∈ xs := by
            have := List.mem_map_of_mem (f := Prod.fst) hz
            rwa [tagFrom_map] at this
          exact (H.out.ok z.1 hz').step (HB1.out.trans (hbt.below HB1.out.size hg))
        exact mcmp_any x.1 y.1 wr (okx x hx) (okx y hy)
      · rintro e w' ⟨rfl, S, hS, hI⟩
        simp only [List.nil_append, List.append_nil] at hI
        have hl : n = S.length := by rw [hS.perm.length_eq, tagFrom_length]; exact HL.out
        exact ⟨rfl, S.map Prod.fst, SortedBy.of hS, hI.row.reads hl hc1, HB1.out.trans (hI.but.below HB1.out.size hg)⟩
  go_wp2_with fail
  refine sorted.out.mono ?_
  rintro e w2 ⟨rfl, S, hS, hSR, hb2⟩
  clear sorted HO HB1 hc1
  have HS := Lib.hid hS
  have HSR := Lib.hid hSR
  have HB2 := Lib.hid hb2
  have HSL : Hid (n = S.length) := hSR.ln
  have hokS : ∀ x ∈ S, okS w x := fun x hx => H.out.ok x (hS.1.subset hx)
  have HOk := Lib.hid hokS
  clear hS hSR hb2 hokS
  go_wp2_with fail
  go_loopw [3, 13] (fun v3 v13 wr => ∃ (i : Nat) (cs : List PS), i ≤ n ∧ v13 = .int .i64 i ∧ MgI w w2 S i v3 cs wr) (fun _ v13 _ => n - (intOf v13).toNat)
  case atStart => exact ⟨0, [], Nat.zero_le _, rfl, ⟨own_nil _ _ _ _, rfl, Nat.le_refl _, by simp, by simp, Below.refl _ _⟩⟩
  case round =>
    obtain ⟨i, cs, hi, rfl, I⟩ := hrel
    have J := Lib.hid I
    by_cases hlt : i < n
    · obtain ⟨p, hp⟩ : ∃ p, S[i]? = some p := ⟨_, List.getElem?_eq_getElem (by have := HSL.out; omega)⟩
      obtain ⟨b, off, rfl, hbl, hel⟩ := HSR.out.el (by omega)
      have hat : SAt w2 b (off + i * 12) p := sat_of fun j v hj => hel i p hp j v hj
      have HP := Lib.hid hp
      have HPk := Lib.hid (HOk.out p (List.mem_of_getElem? hp))
      have hbr : b < wr.heap.size := by have := I.bel.size; omega
      have hle := I.le
      obtain ⟨⟨⟨p0, p1, p2, p3, p4⟩, p5⟩, ⟨⟨q0, q1, q2, q3, q4⟩, q5⟩⟩ := hat.keep (I.bel.block b hbl)
      obtain ⟨m, hm⟩ : ∃ m, m = cs.length := ⟨_, rfl⟩
      obtain ⟨A3, c3, hv3, hc3⟩ := own_slice I.own
      rw [← hm] at hv3 hc3 hle
      subst hv3
      have HM := Lib.hid hm
      clear hp hat I hbl hel hm
      go_upto_region 8 with fail
      have KB : MgB w w2 S i (.slice A3 m c3) cs wr.heap.size p (wr.alloc (Obj.cells (arrS p) 54)) := ⟨J.out.step ((Below.refl wr.heap.size wr).alloc (Nat.le_refl _) _), Blk.new_at rfl⟩
      change (Code.region 8 _ _).wp _ _ _ (wr.alloc (Obj.cells (arrS p) 54))
      generalize wr.alloc (Obj.cells (arrS p) 54) = wa at *
      generalize wr.heap.size = ga at *
      have LB := Lib.hid KB
      clear p0 p1 p2 p3 p4 p5 q0 q1 q2 q3 q4 q5 J KB hbr
      rcases List.eq_nil_or_concat cs with hcs | ⟨d, l, hcs⟩
      · have hm1 : decide ((m : Int) - 1 < 0) = true := decide_eq_true (by have := HM.out; rw [hcs] at this; simp at this; omega)
        have HSt : Hid (stepS cmC (cs.map spP) (spP p) = cs.map spP ++ [spP p]) := Lib.hid (stepS_app (.inl (by rw [hcs]; rfl)))
        clear hcs
        refine wp_region_bw (by kernel_rfl) (by kernel_rfl) ?_
        repeat (go_big_quiet_step (fail))
        refine wpQuiet_nil ?_
        rintro _ ⟨kw, rfl⟩
        have L1 := Lib.hid (LB.out.step kw.below)
        clear hm1 LB
        generalize kw.val = w3 at *
        obtain ⟨⟨⟨p0, p1, p2, p3, p4⟩, p5⟩, ⟨⟨q0, q1, q2, q3, q4⟩, q5⟩⟩ := SAt.of_blk L1.out.b5
        have hlo : w2.heap.size ≤ w3.heap.size := L1.out.i.bel.size
        have LK := Lib.hid (L1.out.i.step ((Below.refl w3.heap.size w3).alloc (Nat.le_refl _) (Obj.cells (arrS p) 54)))
        have hown : (w3.alloc (Obj.cells (arrS p) 54)).ownsRow w2.heap.size 54 12 (.slice A3 m c3) m (flat recS cs) := by have := LK.out.own; rw [← HM.out] at this; exact this
        have HOw := Lib.hid hown
        clear hown
        go_wp2_with (at_builtin; refine wpList_append_any _ rfl _ _ 46 rfl w2.heap.size 54 j0 (aggS (((VC.zero, Val.zero), false), ((VC.zero, Val.zero), false))) 12 176 Tryd.underlying46 hj0 hy0 hy1 hy2 rfl (by decide) (.slice A3 m c3) m (flat recS cs) rfl HOw.out _ _ 1 _ (recS p) rfl ⟨rfl, fun _ => ⟨_, rfl, Nat.lt_succ_self _, news_at _ _ _⟩⟩ (recS_one _) (by unfold maxLen; omega) (by omega) (by simp; omega) ?_)
        intro v' w4 hown hg _
        have HI := Lib.hid (LK.out.add HP.out HSt.out HPk.out hg (by rw [HM.out]) hown)
        clear hown hg p0 p1 p2 p3 p4 p5 q0 q1 q2 q3 q4 q5
        go_wp2_with fail
        go_roundw
        case rel => exact ⟨i + 1, cs ++ [p], by omega, by go_num, HI.out⟩
        case measure => simp [intOf]; omega
      · rw [List.concat_eq_append] at hcs
        have hml : m = d.length + 1 := by rw [HM.out, hcs]; simp
        obtain ⟨g, hA3⟩ : ∃ g, A3 = some ⟨g, 0, none⟩ := by
          obtain ⟨g, cap, hv, _⟩ := LB.out.i.own.form (by rw [hcs]; simp)
          injection hv with hv
          exact ⟨g, hv⟩
        subst hA3
        have hrow : CAt wa g ((m - 1) * 12 + 6) l.2 := by
          have ho := LB.out.i.own
          rw [← HM.out] at ho
          refine cat_of fun j v hj => ?_
          have hlt := (List.getElem?_eq_some_iff.1 hj).1
          rw [recC_length] at hlt
          rw [Nat.add_assoc, ho.cellAt _ (by omega)]
          refine flat_get recS_length (xs := cs) (a := l) (by rw [hcs, show m - 1 = d.length by omega]; simp) ?_
          show (recC l.1 ++ recC l.2)[6 + j]? = some v
          rw [List.getElem?_append_right (by rw [recC_length]; omega), recC_length, show 6 + j - 6 = j by omega]
          exact hj
        have hokl : okS w l := LB.out.i.ok l (by rw [hcs]; simp)
        have HOl := Lib.hid hokl
        have HML := Lib.hid hml
        have HCS := Lib.hid hcs
        have hwb : Hid (Below w.heap.size w wa) := Lib.hid (HB2.out.trans (LB.out.i.bel.mono HB2.out.size))
        obtain ⟨⟨r0, r1, r2, r3, r4⟩, r5⟩ := hrow
        obtain ⟨⟨⟨p0, p1, p2, p3, p4⟩, p5⟩, ⟨⟨q0, q1, q2, q3, q4⟩, q5⟩⟩ := SAt.of_blk LB.out.b5
        have R0 : ∀ k : BW wa, k.val.cell? ⟨g, (m - 1) * 12 + 6, none⟩ = some (.int .i64 l.2.1.1.k) := fun k => k.cell r0
        have R1 : ∀ k : BW wa, k.val.cell? ⟨g, (m - 1) * 12 + 6 + 1, none⟩ = some (.int .i64 l.2.1.1.n) := fun k => k.cell r1
        have R2 : ∀ k : BW wa, k.val.cell? ⟨g, (m - 1) * 12 + 6 + 2, none⟩ = some (.string l.2.1.1.t) := fun k => k.cell r2
        have R3 : ∀ k : BW wa, k.val.cell? ⟨g, (m - 1) * 12 + 6 + 3, none⟩ = some (.slice l.2.1.1.LA l.2.1.1.ln l.2.1.1.lc) := fun k => k.cell r3
        have R4 : ∀ k : BW wa, k.val.cell? ⟨g, (m - 1) * 12 + 6 + 4, none⟩ = some (.slice l.2.1.1.DA l.2.1.1.dn l.2.1.1.dc) := fun k => k.cell r4
        have R5 : ∀ k : BW wa, k.val.cell? ⟨g, (m - 1) * 12 + 6 + 5, none⟩ = some (.bool l.2.2) := fun k => k.cell r5
        have P0 : ∀ k : BW wa, k.val.cell? ⟨ga, 0, none⟩ = some (.int .i64 p.1.1.1.k) := fun k => k.cell p0
        have P1 : ∀ k : BW wa, k.val.cell? ⟨ga, 1, none⟩ = some (.int .i64 p.1.1.1.n) := fun k => k.cell p1
        have P2 : ∀ k : BW wa, k.val.cell? ⟨ga, 2, none⟩ = some (.string p.1.1.1.t) := fun k => k.cell p2
        have P3 : ∀ k : BW wa, k.val.cell? ⟨ga, 3, none⟩ = some (.slice p.1.1.1.LA p.1.1.1.ln p.1.1.1.lc) := fun k => k.cell p3
        have P4 : ∀ k : BW wa, k.val.cell? ⟨ga, 4, none⟩ = some (.slice p.1.1.1.DA p.1.1.1.dn p.1.1.1.dc) := fun k => k.cell p4
        have P5 : ∀ k : BW wa, k.val.cell? ⟨ga, 5, none⟩ = some (.bool p.1.2) := fun k => k.cell p5
        have i0 : (0 : Int) ≤ (m : Int) - 1 := by omega
        have i1 : (m : Int) - 1 < (m : Int) := by omega
        have W2 : ((m : Int) - 1).toNat = m - 1 := by omega
        have hm1 : decide ((m : Int) - 1 < 0) = false := decide_eq_false (by omega)
        have K1 : Hid (∀ k : BW wa, Calls Tryd.prog 39 #[aggC l.2, aggC p.1] k.val fun e w'' => e = .returned (.int .i64 (cmC (cutP l.2) (cutP p.1))) ∧ ∃ k : BW wa, w'' = k.val) := fun k =>
          Calls.bw (compare_any l.2 p.1 k.val ((HOl.out.step hwb.out).2.step k.below) ((HPk.out.step hwb.out).1.step k.below))
        clear hcs hokl hml r0 r1 r2 r3 r4 r5 p0 p1 p2 p3 p4 p5 q0 q1 q2 q3 q4 q5
        refine wp_region_bw (by kernel_rfl) (by kernel_rfl) ?_
        repeat (go_big_quiet_step (with_reducible exact K1.out _))
        refine wpQuiet_nil ?_
        rintro _ ⟨kw, rfl⟩
        have L1 := Lib.hid (LB.out.step kw.below)
        clear R0 R1 R2 R3 R4 R5 P0 P1 P2 P3 P4 P5 K1 i0 i1 W2 hm1 LB hwb
        generalize kw.val = w3 at *
        by_cases hc : cmC (cutP l.2) (cutP p.1) < 0
        · have HSt : Hid (stepS cmC (cs.map spP) (spP p) = cs.map spP ++ [spP p]) := Lib.hid (stepS_app (.inr ⟨d.map spP, spP l, by rw [HCS.out, List.map_append]; rfl, hc⟩))
          obtain ⟨⟨⟨p0, p1, p2, p3, p4⟩, p5⟩, ⟨⟨q0, q1, q2, q3, q4⟩, q5⟩⟩ := SAt.of_blk L1.out.b5
          have hlo : w2.heap.size ≤ w3.heap.size := L1.out.i.bel.size
          have LK := Lib.hid (L1.out.i.step ((Below.refl w3.heap.size w3).alloc (Nat.le_refl _) (Obj.cells (arrS p) 54)))
          have hown : (w3.alloc (Obj.cells (arrS p) 54)).ownsRow w2.heap.size 54 12 (.slice (some ⟨g, 0, none⟩) m c3) m (flat recS cs) := by have := LK.out.own; rw [← HM.out] at this; exact this
          have HOw := Lib.hid hown
          clear hown
          go_wp2_with (at_builtin; refine wpList_append_any _ rfl _ _ 46 rfl w2.heap.size 54 j0 (aggS (((VC.zero, Val.zero), false), ((VC.zero, Val.zero), false))) 12 176 Tryd.underlying46 hj0 hy0 hy1 hy2 rfl (by decide) (.slice (some ⟨g, 0, none⟩) m c3) m (flat recS cs) rfl HOw.out _ _ 1 _ (recS p) rfl ⟨rfl, fun _ => ⟨_, rfl, Nat.lt_succ_self _, news_at _ _ _⟩⟩ (recS_one _) (by unfold maxLen; omega) (by omega) (by simp; omega) ?_)
          intro v' w4 hown hg _
          have HI := Lib.hid (LK.out.add HP.out HSt.out HPk.out hg (by rw [HM.out]) hown)
          clear hown hg p0 p1 p2 p3 p4 p5 q0 q1 q2 q3 q4 q5
          go_wp2_with fail
          go_roundw
          case rel => exact ⟨i + 1, cs ++ [p], by omega, by go_num, HI.out⟩
          case measure => simp [intOf]; omega
        · go_upto_region 10 with fail
          have hrow : CAt w3 g ((m - 1) * 12 + 6) l.2 := by
            have ho := L1.out.i.own
            rw [← HM.out] at ho
            have hml := HML.out
            refine cat_of fun j v hj => ?_
            have hlt := (List.getElem?_eq_some_iff.1 hj).1
            rw [recC_length] at hlt
            rw [Nat.add_assoc, ho.cellAt _ (by omega)]
            refine flat_get recS_length (xs := cs) (a := l) (by rw [HCS.out, show m - 1 = d.length by omega]; simp) ?_
            show (recC l.1 ++ recC l.2)[6 + j]? = some v
            rw [List.getElem?_append_right (by rw [recC_length]; omega), recC_length, show 6 + j - 6 = j by omega]
            exact hj
          have hwb : Hid (Below w.heap.size w w3) := Lib.hid (HB2.out.trans (L1.out.i.bel.mono HB2.out.size))
          obtain ⟨⟨r0, r1, r2, r3, r4⟩, r5⟩ := hrow
          obtain ⟨_, ⟨⟨q0, q1, q2, q3, q4⟩, q5⟩⟩ := SAt.of_blk L1.out.b5
          have R0 : ∀ k : BW w3, k.val.cell? ⟨g, (m - 1) * 12 + 6, none⟩ = some (.int .i64 l.2.1.1.k) := fun k => k.cell r0
          have R1 : ∀ k : BW w3, k.val.cell? ⟨g, (m - 1) * 12 + 6 + 1, none⟩ = some (.int .i64 l.2.1.1.n) := fun k => k.cell r1
          have R2 : ∀ k : BW w3, k.val.cell? ⟨g, (m - 1) * 12 + 6 + 2, none⟩ = some (.string l.2.1.1.t) := fun k => k.cell r2
          have R3 : ∀ k : BW w3, k.val.cell? ⟨g, (m - 1) * 12 + 6 + 3, none⟩ = some (.slice l.2.1.1.LA l.2.1.1.ln l.2.1.1.lc) := fun k => k.cell r3
          have R4 : ∀ k : BW w3, k.val.cell? ⟨g, (m - 1) * 12 + 6 + 4, none⟩ = some (.slice l.2.1.1.DA l.2.1.1.dn l.2.1.1.dc) := fun k => k.cell r4
          have R5 : ∀ k : BW w3, k.val.cell? ⟨g, (m - 1) * 12 + 6 + 5, none⟩ = some (.bool l.2.2) := fun k => k.cell r5
          have Q0 : ∀ k : BW w3, k.val.cell? ⟨ga, 6, none⟩ = some (.int .i64 p.2.1.1.k) := fun k => k.cell q0
          have Q1 : ∀ k : BW w3, k.val.cell? ⟨ga, 7, none⟩ = some (.int .i64 p.2.1.1.n) := fun k => k.cell q1
          have Q2 : ∀ k : BW w3, k.val.cell? ⟨ga, 8, none⟩ = some (.string p.2.1.1.t) := fun k => k.cell q2
          have Q3 : ∀ k : BW w3, k.val.cell? ⟨ga, 9, none⟩ = some (.slice p.2.1.1.LA p.2.1.1.ln p.2.1.1.lc) := fun k => k.cell q3
          have Q4 : ∀ k : BW w3, k.val.cell? ⟨ga, 10, none⟩ = some (.slice p.2.1.1.DA p.2.1.1.dn p.2.1.1.dc) := fun k => k.cell q4
          have Q5 : ∀ k : BW w3, k.val.cell? ⟨ga, 11, none⟩ = some (.bool p.2.2) := fun k => k.cell q5
          have hml := HML.out
          have i0 : (0 : Int) ≤ (m : Int) - 1 := by omega
          have i1 : (m : Int) - 1 < (m : Int) := by omega
          have W2 : ((m : Int) - 1).toNat = m - 1 := by omega
          have K1 : Hid (∀ k : BW w3, Calls Tryd.prog 39 #[aggC l.2, aggC p.2] k.val fun e w'' => e = .returned (.int .i64 (cmC (cutP l.2) (cutP p.2))) ∧ ∃ k : BW w3, w'' = k.val) := fun k =>
            Calls.bw (compare_any l.2 p.2 k.val ((HOl.out.step hwb.out).2.step k.below) ((HPk.out.step hwb.out).2.step k.below))
          clear hml r0 r1 r2 r3 r4 r5 q0 q1 q2 q3 q4 q5
          refine wp_region_bw (by kernel_rfl) (by kernel_rfl) ?_
          repeat (go_big_quiet_step (with_reducible exact K1.out _))
          refine wpQuiet_nil ?_
          rintro _ ⟨kw, rfl⟩
          have L2 := Lib.hid (L1.out.step kw.below)
          clear R0 R1 R2 R3 R4 R5 Q0 Q1 Q2 Q3 Q4 Q5 K1 i0 i1 W2 L1 hwb
          generalize kw.val = w4 at *
          by_cases hd : cmC (cutP l.2) (cutP p.2) < 0
          · have hml := HML.out
            have hst : stepS cmC ((d ++ [l]).map spP) (spP p) = (d ++ [(l.1, p.2)]).map spP := by
              rw [List.map_append, List.map_append]
              exact stepS_up hc hd
            have HI : Hid (MgI w w2 S (i + 1) (.slice (some ⟨g, 0, none⟩) m c3) (d ++ [(l.1, p.2)]) (setC w4 g ((m - 1) * 12 + 6) p.2)) := by
              have h0 := L2.out.i
              rw [HCS.out] at h0
              have := h0.put HP.out hst HPk.out hml
              rw [show d.length = m - 1 by omega] at this
              exact Lib.hid this
            have ho : w4.ownsRow w2.heap.size 54 12 (.slice (some ⟨g, 0, none⟩) m c3) m (flat recS cs) := by have := L2.out.i.own; rw [← HM.out] at this; exact this
            have z := ho.frozenAt
            have hrow : CAt w4 g ((m - 1) * 12 + 6) l.2 := by
              have ho := L2.out.i.own
              rw [← HM.out] at ho
              have hml := HML.out
              refine cat_of fun j v hj => ?_
              have hlt := (List.getElem?_eq_some_iff.1 hj).1
              rw [recC_length] at hlt
              rw [Nat.add_assoc, ho.cellAt _ (by omega)]
              refine flat_get recS_length (xs := cs) (a := l) (by rw [HCS.out, show m - 1 = d.length by omega]; simp) ?_
              show (recC l.1 ++ recC l.2)[6 + j]? = some v
              rw [List.getElem?_append_right (by rw [recC_length]; omega), recC_length, show 6 + j - 6 = j by omega]
              exact hj
            obtain ⟨⟨r0, r1, r2, r3, r4⟩, r5⟩ := hrow
            obtain ⟨_, ⟨⟨q0, q1, q2, q3, q4⟩, q5⟩⟩ := SAt.of_blk L2.out.b5
            have i0 : (0 : Int) ≤ (m : Int) - 1 := by omega
            have i1 : (m : Int) - 1 < (m : Int) := by omega
            have W2 : ((m : Int) - 1).toNat = m - 1 := by omega
            clear ho hst hml
            go_upto_region 12 with fail
            clear r0 r1 r2 r3 r4 r5 q0 q1 q2 q3 q4 q5 z i0 i1 W2
            obtain ⟨w5, hw5, HI5⟩ : ∃ w5, setC w4 g ((m - 1) * 12 + 6) p.2 = w5 ∧ Hid (MgI w w2 S (i + 1) (.slice (some ⟨g, 0, none⟩) m c3) (d ++ [(l.1, p.2)]) w5) := ⟨_, rfl, HI⟩
            unfold setC setV at hw5
            rw [hw5]
            clear hw5 HI
            go_wp2_with fail
            go_roundw
            case rel => exact ⟨i + 1, d ++ [(l.1, p.2)], by omega, by go_num, HI5.out⟩
            case measure => simp [intOf]; omega
          · have hst : stepS cmC (cs.map spP) (spP p) = cs.map spP := by
              rw [HCS.out, List.map_append]
              exact stepS_no hc hd
            have HI := Lib.hid (L2.out.i.same HP.out hst)
            clear hst
            go_wp2_with fail
            go_roundw
            case rel => exact ⟨i + 1, cs, by omega, by go_num, HI.out⟩
            case measure => simp [intOf]; omega
    · clear I
      go_wp2_with fail
      go_ret
      obtain ⟨A', c', e, hs⟩ := SS.of_own J.out.own rfl (by have := J.out.le; unfold reach; omega) (fun x hx => (J.out.ok x hx).step (HB2.out.trans (J.out.bel.mono HB2.out.size)))
      refine ⟨A', _, c', cs, by rw [← e]; rfl, ⟨S, HS.out, by rw [J.out.eq, List.take_of_length_le (by have := HSL.out; omega)]⟩, fun y hy => ⟨by obtain ⟨z, hz, e⟩ := (J.out.pr y hy).1; exact ⟨z, HS.out.1.subset hz, e⟩, by obtain ⟨z, hz, e⟩ := (J.out.pr y hy).2; exact ⟨z, HS.out.1.subset hz, e⟩⟩, fun b off hA => ?_, hs, ?_, HB2.out.trans (J.out.bel.mono HB2.out.size)⟩
      · have h1 := J.out.own
        rw [e, hA] at h1
        have := own_ge h1 b rfl
        have := HB2.out.size
        omega
      · have := J.out.le
        have := HL.out
        omega

end Go.Proofs.YtdmabhbhlnpkgaaDoor
