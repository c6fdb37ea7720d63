/- The contract of interval.spans. -/
import Derived.Test.YtdmabhbhlnpkgaaDoorIvCompare
import Derived.Test.YtdmabhbhlnpkgaaDoorValSound
namespace Go.Proofs.YtdmabhbhlnpkgaaDoor
open Go.RowKit

/-- a slice of spans is handed back -/
def SpOk (is : List PI) (w : World) (e : Ending) (w' : World) : Prop :=
  ∃ (A : Option Addr) (m c : Nat) (xs : List PS), e = .returned (.slice A m c) ∧ xs.map spP = spansL (is.map ivP) ∧ (∀ x ∈ xs, ∃ p ∈ is, x = spanP p) ∧ m ≤ is.length ∧ SS w' A m c xs ∧ Below w.heap.size w w'

/-- the loop of spans -/
structure SpI (w : World) (is : List PI) (i : Nat) (v : Value) (xs : List PS) (wr : World) : Prop where
  own : wr.ownsRow w.heap.size 54 12 v xs.length (flat recS xs)
  eq : xs.map spP = spansL ((is.take i).map ivP)
  le : xs.length ≤ i
  ok : ∀ x ∈ xs, okS w x
  pr : ∀ x ∈ xs, ∃ p ∈ is, x = spanP p
  bel : Below w.heap.size w wr
theorem SpI.step {w : World} {is : List PI} {i : Nat} {v : Value} {xs : List PS} {wr w' : World} (h : SpI w is i v xs wr) (hb : Below wr.heap.size wr w') : SpI w is i v xs w' := ⟨own_step h.own hb, h.eq, h.le, h.ok, h.pr, h.bel.step' hb⟩
theorem SpI.skip {w : World} {is : List PI} {i : Nat} {v : Value} {xs : List PS} {wr : World} {p : PI} (h : SpI w is i v xs wr) (hp : is[i]? = some p) (hn : (ivP p).ne = false) : SpI w is (i + 1) v xs wr := by
  refine ⟨h.own, ?_, by have := h.le; omega, h.ok, h.pr, h.bel⟩
  rw [take_snoc' hp, List.map_append, List.map_singleton, spansL_snoc, hn]
  exact h.eq
theorem SpI.next {w : World} {is : List PI} {i m : Nat} {v v' : Value} {xs : List PS} {wr w' : World} {p : PI} (h : SpI w is i v xs wr) (hp : is[i]? = some p) (hn : (ivP p).ne = true) (hok : okI w p) (hg : wr.grownBy w' v.ownBlock)
    (hm : m = xs.length + 1) (ho : w'.ownsRow w.heap.size 54 12 v' m (flat recS xs ++ recS (spanP p))) : SpI w is (i + 1) v' (xs ++ [spanP p]) w' := by
  subst hm
  refine ⟨?_, ?_, by have := h.le; simp; omega, fun x hx => ?_, fun x hx => ?_, h.bel.grown hg h.bel.size (own_ge h.own)⟩
  · rw [flat_snoc, List.length_append]; exact ho
  · have e : spansL ((is.take (i + 1)).map ivP) = spansL ((is.take i).map ivP) ++ [(ivP p).sp] := by
      rw [take_snoc' hp, List.map_append, List.map_singleton, spansL_snoc, hn]; rfl
    rw [e, List.map_append, h.eq]
    rfl
  · rcases List.mem_append.1 hx with hx | hx
    · exact h.ok x hx
    · simp at hx; subst hx; exact hok.span
  · rcases List.mem_append.1 hx with hx | hx
    · exact h.pr x hx
    · simp at hx; subst hx; exact ⟨p, List.mem_of_getElem? hp, rfl⟩
theorem ne_false1 {p : PI} (h : validV p.1.1.2 = false) : (ivP p).ne = false := by show (validV p.1.1.2 && _ && _) = false; rw [h]; rfl
theorem ne_false2 {p : PI} (h : validV p.1.2.2 = false) : (ivP p).ne = false := by show (validV p.1.1.2 && validV p.1.2.2 && _) = false; rw [h, Bool.and_false]; rfl
theorem ne_false3 {p : PI} (h : ¬ cmC (ivP p).sp.1 (ivP p).sp.2 < 0) : (ivP p).ne = false := by unfold Iv.ne; rw [decide_eq_false h, Bool.and_false]
theorem ne_true {p : PI} (h1 : validV p.1.1.2 = true) (h2 : validV p.1.2.2 = true) (h : cmC (ivP p).sp.1 (ivP p).sp.2 < 0) : (ivP p).ne = true := by
  show (validV p.1.1.2 && validV p.1.2.2 && _) = true; rw [h1, h2, decide_eq_true h]; rfl

/-- the two boxes of a round -/
structure SpB (w : World) (is : List PI) (i : Nat) (v : Value) (xs : List PS) (g : Nat) (p : PI) (wr : World) : Prop where
  i : SpI w is i v xs wr
  b5 : Blk wr g 37 (arrI p)
  b6 : Blk wr (g + 1) 54 (arrS (spanP p))
theorem SpB.step {w : World} {is : List PI} {i : Nat} {v : Value} {xs : List PS} {g : Nat} {p : PI} {wr w' : World} (h : SpB w is i v xs g p wr) (hb : Below wr.heap.size wr w') : SpB w is i v xs g p w' := ⟨h.i.step hb, h.b5.step hb, h.b6.step hb⟩

set_option maxRecDepth 100000 in
set_option maxHeartbeats 4000000 in
theorem spans_any (is : List PI) (A : Option Addr) (n c : Nat) (w : World) (hT : Tabs w) (h : SI w A n c is) (hn : n ≤ 100000) :
    Calls Tryd.prog 35 #[.slice A n c] w (SpOk is w) := by
  obtain ⟨j0, hj0, hy0, hy1, hy2⟩ := info_parts info_span
  have HT := Lib.hid hT
  have H := Lib.hid h
  have HL := Lib.hid h.sr.ln
  clear hT h
  go_enter Tryd.func35, Tryd.ntmps35
  go_wp2_with fail
  go_loopw [3, 9] (fun v3 v9 wr => ∃ (i : Nat) (xs : List PS), i ≤ n ∧ v9 = .int .i64 i ∧ SpI w is i v3 xs wr) (fun _ v9 _ => n - (intOf v9).toNat)
  case atStart => exact ⟨0, [], Nat.zero_le _, rfl, ⟨own_nil _ _ _ _, rfl, Nat.le_refl _, by simp, by simp, Below.refl _ _⟩⟩
  case round =>
    obtain ⟨i, xs, hi, rfl, I⟩ := hrel
    have J := Lib.hid I
    by_cases hlt : i < n
    · obtain ⟨p, hp⟩ : ∃ p, is[i]? = some p := ⟨_, List.getElem?_eq_getElem (by have := HL.out; omega)⟩
      obtain ⟨b, off, rfl, hbl, hat, hok⟩ := H.out.at hp
      have HP := Lib.hid hp
      have HOk := Lib.hid hok
      have hbr : b < wr.heap.size := by have := I.bel.size; omega
      have hle := I.le
      obtain ⟨⟨p0, p1, p2, p3, p4⟩, ⟨q0, q1, q2, q3, q4⟩, r0, r1⟩ := hat.keep (I.bel.block b hbl)
      clear hp hok hat I hbl
      go_upto_region 6 with fail
      have KB : SpB w is i u3 xs wr.heap.size p ((wr.alloc (Obj.cells (arrI p) 37)).alloc (Obj.cells (arrS (spanP p)) 54)) :=
        ⟨(J.out.step ((Below.refl wr.heap.size wr).alloc (Nat.le_refl _) _)).step ((Below.refl _ _).alloc (Nat.le_refl _) _), (Blk.new_at rfl).alloc _, Blk.new_at (by simp)⟩
      change (Code.region 6 _ _).wp _ _ _ ((wr.alloc (Obj.cells (arrI p) 37)).alloc (Obj.cells (arrS (spanP p)) 54))
      generalize (wr.alloc (Obj.cells (arrI p) 37)).alloc (Obj.cells (arrS (spanP p)) 54) = wa at *
      generalize wr.heap.size = ga at *
      have LB := Lib.hid KB
      clear p0 p1 p2 p3 p4 q0 q1 q2 q3 q4 r0 r1 J KB hbr
      obtain ⟨⟨p0, p1, p2, p3, p4⟩, ⟨q0, q1, q2, q3, q4⟩, r0, r1⟩ := IAt.of_blk LB.out.b5
      go_wp2_with fail
      refine (valid_any p.1.1.2 p.1.1.1 _ (HT.out.step LB.out.i.bel) (HOk.out.step LB.out.i.bel).1).mono ?_
      rintro e w1 ⟨rfl, hb1⟩
      have L1 := Lib.hid (LB.out.step hb1)
      clear hb1 p0 p1 p2 p3 p4 q0 q1 q2 q3 q4 r0 r1 LB
      cases h1 : validV p.1.1.2
      · have HI := Lib.hid (L1.out.i.skip HP.out (ne_false1 h1))
        clear h1
        go_wp2_with fail
        go_roundw
        case rel => exact ⟨i + 1, xs, by omega, by go_num, HI.out⟩
        case measure => simp [intOf]; omega
      have V1 := Lib.hid h1
      clear h1
      obtain ⟨⟨p0, p1, p2, p3, p4⟩, ⟨q0, q1, q2, q3, q4⟩, r0, r1⟩ := IAt.of_blk L1.out.b5
      go_wp2_with fail
      refine (valid_any p.1.2.2 p.1.2.1 _ (HT.out.step L1.out.i.bel) (HOk.out.step L1.out.i.bel).2).mono ?_
      rintro e w2 ⟨rfl, hb2⟩
      have L2 := Lib.hid (L1.out.step hb2)
      clear hb2 p0 p1 p2 p3 p4 q0 q1 q2 q3 q4 r0 r1 L1
      cases h2 : validV p.1.2.2
      · have HI := Lib.hid (L2.out.i.skip HP.out (ne_false2 h2))
        clear h2
        go_wp2_with fail
        go_roundw
        case rel => exact ⟨i + 1, xs, by omega, by go_num, HI.out⟩
        case measure => simp [intOf]; omega
      have V2 := Lib.hid h2
      clear h2
      obtain ⟨⟨⟨p0, p1, p2, p3, p4⟩, p5⟩, ⟨⟨q0, q1, q2, q3, q4⟩, q5⟩⟩ := SAt.of_blk L2.out.b6
      go_wp2_with fail
      refine (compare_any (spanP p).1 (spanP p).2 _ (HOk.out.step L2.out.i.bel).1 (HOk.out.step L2.out.i.bel).2).mono ?_
      rintro e w3 ⟨rfl, hb3⟩
      have L3 := Lib.hid (L2.out.step hb3)
      clear hb3 p0 p1 p2 p3 p4 p5 q0 q1 q2 q3 q4 q5 L2
      by_cases h3 : cmC (cutP (spanP p).1) (cutP (spanP p).2) < 0
      · have HN := Lib.hid (ne_true V1.out V2.out h3)
        obtain ⟨⟨⟨p0, p1, p2, p3, p4⟩, p5⟩, ⟨⟨q0, q1, q2, q3, q4⟩, q5⟩⟩ := SAt.of_blk L3.out.b6
        have hlo : w.heap.size ≤ w3.heap.size := L3.out.i.bel.size
        have LK := Lib.hid (L3.out.i.step ((Below.refl w3.heap.size w3).alloc (Nat.le_refl _) (Obj.cells (arrS (spanP p)) 54)))
        go_wp2_with (at_builtin; refine wpList_append_any _ rfl _ _ 46 rfl w.heap.size 54 j0 (aggS (((VC.zero, Val.zero), false), ((VC.zero, Val.zero), false))) 12 176 Tryd.underlying46 hj0 hy0 hy1 hy2 rfl (by decide) u3 xs.length (flat recS xs) rfl LK.out.own _ _ 1 _ (recS (spanP p)) rfl ⟨rfl, fun _ => ⟨_, rfl, Nat.lt_succ_self _, news_at _ _ _⟩⟩ (recS_one _) (by unfold maxLen; omega) (by omega) ?c5 ?_)
        case c5 => first | omega | (simp; omega)
        intro v' w4 hown hg _
        have HI := Lib.hid (LK.out.next HP.out HN.out HOk.out hg rfl hown)
        clear hown hg p0 p1 p2 p3 p4 p5 q0 q1 q2 q3 q4 q5 h3
        go_wp2_with fail
        go_roundw
        case rel => exact ⟨i + 1, xs ++ [spanP p], by omega, by go_num, HI.out⟩
        case measure => simp [intOf]; omega
      · have HI := Lib.hid (L3.out.i.skip HP.out (ne_false3 h3))
        go_wp2_with fail
        go_roundw
        case rel => exact ⟨i + 1, xs, by omega, by go_num, HI.out⟩
        case measure => simp [intOf]; omega
    · clear I
      go_wp2_with fail
      go_ret
      obtain ⟨A', c', e, hs⟩ := SS.of_own J.out.own rfl (by have := J.out.le; unfold reach; omega) (fun x hx => (J.out.ok x hx).step J.out.bel)
      exact ⟨A', _, c', xs, by rw [← e]; rfl, by rw [J.out.eq, List.take_of_length_le (by have := HL.out; omega)], J.out.pr, by have := J.out.le; have := HL.out; omega, hs, J.out.bel⟩

end Go.Proofs.YtdmabhbhlnpkgaaDoor
