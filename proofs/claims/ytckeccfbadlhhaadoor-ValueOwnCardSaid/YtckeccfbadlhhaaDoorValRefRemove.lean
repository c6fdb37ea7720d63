/- The contract of the reference's Remove. -/
import Derived.Test.YtckeccfbadlhhaaDoorValRefSet
import Derived.Test.YtckeccfbadlhhaaDoorValRemove
namespace Go.Proofs.YtckeccfbadlhhaaDoor
open Go.RowKit

/-- what is kept of the first i fields -/
def rmF (fs : List PF) (j i : Nat) : List PF := (fs.take i).eraseIdx j
theorem rmF_next {fs : List PF} {j i : Nat} {p : PF} (h : fs[i]? = some p) (hne : i ≠ j) : rmF fs j (i + 1) = rmF fs j i ++ [p] := by
  have hi := (List.getElem?_eq_some_iff.1 h).1
  unfold rmF
  rw [take_snoc' h]
  have hl : (fs.take i).length = i := by rw [List.length_take]; omega
  rcases Nat.lt_or_gt_of_ne hne with hlt | hgt
  · rw [List.eraseIdx_of_length_le (by rw [List.length_append, hl]; simp; omega), List.eraseIdx_of_length_le (by omega)]
  · rw [List.eraseIdx_append_of_lt_length (by omega)]
theorem rmF_skip {fs : List PF} {j : Nat} {p : PF} (h : fs[j]? = some p) : rmF fs j (j + 1) = rmF fs j j := by
  have hi := (List.getElem?_eq_some_iff.1 h).1
  have hl : (fs.take j).length = j := by rw [List.length_take]; omega
  unfold rmF
  rw [take_snoc' h, List.eraseIdx_append_of_length_le (by omega), hl, Nat.sub_self, List.eraseIdx_of_length_le (l := fs.take j) (by omega)]
  simp
theorem rmF_le (fs : List PF) (j i : Nat) : (rmF fs j i).length ≤ i := by
  unfold rmF
  have h1 := List.length_eraseIdx_le (fs.take i) j
  have h2 := List.length_take_le i fs
  omega
theorem rmF_all {fs : List PF} {j n : Nat} (h : fs.length = n) : rmF fs j n = fs.eraseIdx j := by unfold rmF; rw [List.take_of_length_le (by omega)]

/-- the loop of the reference's Remove -/
structure RrI (w : World) (c : VC) (fs : List PF) (j i : Nat) (v : Value) (wr : World) : Prop where
  b0 : Blk wr w.heap.size 25 c.arr
  b1 : Blk wr (w.heap.size + 1) 25 VC.zero.arr
  own : wr.ownsRow (w.heap.size + 2) 42 6 v (rmF fs j i).length (flat recF (rmF fs j i))
  bel : Below w.heap.size w wr
theorem RrI.step {w : World} {c : VC} {fs : List PF} {j i : Nat} {v : Value} {wr w' : World} (h : RrI w c fs j i v wr) (hb : Below wr.heap.size wr w') : RrI w c fs j i v w' :=
  ⟨h.b0.step hb, h.b1.step hb, own_step h.own hb, h.bel.step' hb⟩
theorem RrI.lo {w : World} {c : VC} {fs : List PF} {j i : Nat} {v : Value} {wr : World} (h : RrI w c fs j i v wr) : w.heap.size + 2 ≤ wr.heap.size := h.b1.lt
theorem RrI.next {w : World} {c : VC} {fs : List PF} {j i m : Nat} {v v' : Value} {wr w' : World} {p : PF} (h : RrI w c fs j i v wr) (hp : fs[i]? = some p) (hne : i ≠ j) (hg : wr.grownBy w' v.ownBlock)
    (hm : m = (rmF fs j i).length + 1) (ho : w'.ownsRow (w.heap.size + 2) 42 6 v' m (flat recF (rmF fs j i) ++ recF p)) : RrI w c fs j (i + 1) v' w' := by
  subst hm
  refine ⟨h.b0.grown hg (fun e => own_ne h.own (by omega) e.symm), h.b1.grown hg (fun e => own_ne h.own (by omega) e.symm), ?_, h.bel.grown hg h.bel.size (fun k hk => by have := own_ge h.own k hk; omega)⟩
  rw [rmF_next hp hne, flat_snoc, List.length_append]
  exact ho
theorem RrI.skip {w : World} {c : VC} {fs : List PF} {j : Nat} {v : Value} {wr : World} {p : PF} (h : RrI w c fs j j v wr) (hp : fs[j]? = some p) : RrI w c fs j (j + 1) v wr :=
  ⟨h.b0, h.b1, by rw [rmF_skip hp]; exact h.own, h.bel⟩

/-- the end: the row becomes the document's -/
theorem RrI.done {w : World} {ck cn : Int} {ct : ByteArray} {LA DA A' : Option Addr} {ln lc dn dc m cap j i : Nat} {fs : List PF} {wr : World} {x : Val} {y : Val}
    (h : RrI w ⟨ck, cn, ct, LA, ln, lc, DA, dn, dc⟩ fs j i (.slice A' m cap) wr) (hx : RW w ⟨ck, cn, ct, LA, ln, lc, DA, dn, dc⟩ x) (hl : fs.length = i) (hm : m = (rmF fs j i).length) (hz : m * 96 ≤ reach) (hs : ∀ q ∈ fs, q.2.s.size ≤ reach ∧ RW w q.1 q.2.v)
    (hy : y = .mk x.k x.n x.t x.l ((fs.map Prod.snd).eraseIdx j)) :
    RSetOk y w (.returned (VC.val ⟨ck, cn, ct, LA, ln, lc, A', m, cap⟩)) (setV (wr.setCell ⟨w.heap.size, 4, none⟩ (.slice A' m cap)) (w.heap.size + 1) 0 ⟨ck, cn, ct, LA, ln, lc, A', m, cap⟩) := by
  subst hy
  have hlo := h.lo
  have hB : Below w.heap.size w (setV (wr.setCell ⟨w.heap.size, 4, none⟩ (.slice A' m cap)) (w.heap.size + 1) 0 ⟨ck, cn, ct, LA, ln, lc, A', m, cap⟩) :=
    below_setV (h.bel.setCell (Nat.le_refl _) _) (by omega) _ _
  have ho := h.own
  rw [← hm, rmF_all hl] at ho
  rw [rmF_all hl] at hm
  have ho' := own_keep (w' := setV (wr.setCell ⟨w.heap.size, 4, none⟩ (.slice A' m cap)) (w.heap.size + 1) 0 ⟨ck, cn, ct, LA, ln, lc, A', m, cap⟩) ho fun g hg => by
    have := own_ge ho g hg
    rw [heap_setV (by omega), Below.heap_setCell _ _ _ _ (by show g ≠ w.heap.size; omega)]
  obtain ⟨A, cc, heq, hsd⟩ := SD.of_own (F := fun _ => True) ho' hm.symm hz (fun _ _ => trivial) (fun p hp => (hs p (List.mem_of_mem_eraseIdx hp)).1) (fun p hp => (hs p (List.mem_of_mem_eraseIdx hp)).2.step hB)
  cases heq
  have hxo := hx.open
  obtain ⟨ps, hps, hsl⟩ := hx.sl
  have := RV.of_slices (k := ck) (m := cn) (t := ct) (by have := hxo.t; simp only at this; rw [this]; exact hxo.tsz) (hsl.step hB) hsd
  refine ⟨_, rfl, ?_, hB⟩
  have e1 := hxo.k
  have e2 := hxo.n
  have e3 := hxo.t
  simp only at e1 e2 e3
  rw [hps, e1, e2, e3, map_erase] at this
  rw [← e1, ← e2, ← e3] at this ⊢
  exact this

set_option maxRecDepth 100000 in
set_option maxHeartbeats 2000000 in
theorem rremove_any (x : Val) (c : VC) (name : ByteArray) (w : World) (h : RW w c x) :
    Calls Tryd.prog 31 #[c.val, .string name] w (RSetOk (remW x name) w) := by
  obtain ⟨j0, hj0, hy0, hy1, hy2⟩ := info_parts info_field
  obtain ⟨ck, cn, ct, LA, ln, lc, DA, dn, dc⟩ := c
  have H := Lib.hid h
  have hdn : dn = x.d.length := h.open.dn
  have hz : dn * 96 ≤ 140737488355328 := h.open.dsz
  obtain ⟨fs, hfs, hsd⟩ := h.sd
  simp only at hsd
  have HS := Lib.hid hsd
  have HFS := Lib.hid hfs
  have HFL := Lib.hid hsd.sr.ln
  have HDN := Lib.hid hdn
  have B0 : Hid (∀ j, RrI w ⟨ck, cn, ct, LA, ln, lc, DA, dn, dc⟩ fs j 0 (.slice none 0 0) ((w.alloc (Obj.cells #[.int .i64 ck, .int .i64 cn, .string ct, .slice LA ln lc, .slice DA dn dc] 25)).alloc (Obj.cells VC.zero.arr 25))) :=
    Lib.hid fun j => ⟨(Blk.new_at rfl).alloc _, Blk.new_at (by simp), own_nil _ _ _ _, ((Below.refl _ _).alloc (Nat.le_refl _) _).alloc (by simp) _⟩
  clear h hsd hfs hdn
  go_enter Tryd.func31, Tryd.ntmps31
  go_wp2_with fail
  refine (rat_any x ⟨ck, cn, ct, LA, ln, lc, DA, dn, dc⟩ name _ (H.out.step (B0.out 0).bel)).mono ?_
  rintro e1 w1 ⟨rfl, hb1⟩
  have B1 : Hid (∀ j, RrI w ⟨ck, cn, ct, LA, ln, lc, DA, dn, dc⟩ fs j 0 (.slice none 0 0) w1) := Lib.hid fun j => (B0.out j).step hb1
  clear hb1 B0
  rcases findI_range x name with hf | ⟨j, hf, f, hj⟩
  · have HR : Hid (remW x name = x) := by rw [Hid]; unfold remW; rw [if_pos (by omega)]
    rw [hf]
    clear hf
    obtain ⟨a0, a1, a2, a3, a4⟩ := VAt.of_blk (B1.out 0).b0
    obtain ⟨b0, b1, b2, b3, b4⟩ := VAt.of_blk (B1.out 0).b1
    have z := (B1.out 0).b1.frozen
    go_wp2_with fail
    have q := VAt.of_blk ((B1.out 0).b1.putV ⟨ck, cn, ct, LA, ln, lc, DA, dn, dc⟩)
    refine bodyPost_ret (results_val rfl _ _ _ rfl _ ⟨ck, cn, ct, LA, ln, lc, DA, dn, dc⟩ q) rfl ?_
    have hB : Below w.heap.size w (setV w1 (w.heap.size + 1) 0 ⟨ck, cn, ct, LA, ln, lc, DA, dn, dc⟩) := below_setV (B1.out 0).bel (by omega) 0 ⟨ck, cn, ct, LA, ln, lc, DA, dn, dc⟩
    refine ⟨⟨ck, cn, ct, LA, ln, lc, DA, dn, dc⟩, rfl, ?_, hB⟩
    rw [HR.out]
    exact H.out.step hB
  · have HR : Hid (remW x name = .mk x.k x.n x.t x.l (x.d.eraseIdx j)) := by rw [Hid]; unfold remW; rw [if_neg (by omega), hf]; rfl
    have hjl := (List.getElem?_eq_some_iff.1 hj).1
    rw [hf]
    clear hf hj hjl
    have hjn : ¬ ((j : Int) < 0) := by omega
    go_wp2_with fail
    clear hjn
    go_loopw [6, 7] (fun v6 v7 wr => ∃ i : Nat, i ≤ dn ∧ v7 = .int .i64 i ∧ RrI w ⟨ck, cn, ct, LA, ln, lc, DA, dn, dc⟩ fs j i v6 wr) (fun _ v7 _ => dn - (intOf v7).toNat)
    case atStart => exact ⟨0, Nat.zero_le _, rfl, B1.out j⟩
    case round =>
      obtain ⟨i, hi, rfl, I⟩ := hrel
      have J := Lib.hid I
      have q4 := I.b0.cell 4
      simp at q4
      by_cases hlt : i < dn
      · obtain ⟨p, hp⟩ : ∃ p, fs[i]? = some p := ⟨_, List.getElem?_eq_getElem (by have := HFL.out; omega)⟩
        by_cases hij : i = j
        · subst hij
          have HI := Lib.hid (I.skip hp)
          have hne : ((i : Int) != (i : Int)) = false := by simp
          clear I hp
          go_wp2_with fail
          go_roundw
          case rel => exact ⟨i + 1, by omega, by go_num, HI.out⟩
          case measure => simp [intOf]; omega
        · obtain ⟨b, off, rfl, _, hs0, hu, _⟩ := HS.out.vat hp
          have hbl : b < wr.heap.size := by have := hu.lt; have := I.bel.size; omega
          have y5 := (I.bel.cell (p := ⟨b, off + i * 6, none⟩) hu.lt).trans hs0
          obtain ⟨y0, y1, y2, y3, y4⟩ := hu.keep (I.bel.block b hu.lt)
          have HP := Lib.hid hp
          have HIJ := Lib.hid hij
          have hne : ((i : Int) != (j : Int)) = true := by simp; omega
          have hle := rmF_le fs j i
          have LK2 := Lib.hid (I.step ((Below.refl wr.heap.size wr).alloc (Nat.le_refl _) (Obj.cells (recF p).toArray 42)))
          have hl2 := I.lo
          clear hp hu I hs0 hij
          go_wp2_with (at_builtin; refine wpList_append_any _ rfl _ _ 23 rfl (w.heap.size + 2) 42 j0 (.agg (#[.string ByteArray.empty] ++ VC.zero.arr)) 6 96 Tryd.underlying23 hj0 hy0 hy1 hy2 rfl (by decide) u6 (rmF fs j i).length (flat recF (rmF fs j i)) rfl LK2.out.own _ _ 1 _ (recF p) rfl ⟨rfl, fun _ => ⟨_, rfl, Nat.lt_succ_self _, news_at _ _ _⟩⟩ (recF_one _) (by unfold maxLen; omega) (by omega) ?c5 ?_)
          case c5 => first | omega | (simp; omega)
          intro v' w2 hown hg _
          have HI := Lib.hid (LK2.out.next HP.out HIJ.out hg rfl hown)
          clear hown hg y0 y1 y2 y3 y4 y5
          go_wp2_with fail
          go_roundw
          case rel => exact ⟨i + 1, by omega, by go_num, HI.out⟩
          case measure => simp [intOf]; omega
      · obtain rfl : i = dn := by omega
        have hqr : ∀ q ∈ fs, q.2.s.size ≤ reach ∧ RW w q.1 q.2.v := fun q hq => ⟨HS.out.ns q hq, HS.out.rv q hq⟩
        have HQR := Lib.hid hqr
        have hle := rmF_le fs j i
        have hl0 := I.lo
        clear hqr I
        obtain ⟨A', cap, rfl, _⟩ := own_slice J.out.own
        obtain ⟨a0, a1, a2, a3, a4⟩ := VAt.of_blk J.out.b0
        obtain ⟨b0, b1, b2, b3, b4⟩ := VAt.of_blk J.out.b1
        have z0 := J.out.b0.frozen
        have z2 := J.out.b1.frozen
        clear q4
        obtain ⟨m, hm⟩ : ∃ m, m = (rmF fs j i).length := ⟨_, rfl⟩
        have HM := Lib.hid hm
        rw [← hm] at J ⊢ hle
        clear hm
        go_wp2_with fail
        have q := VAt.of_blk (((J.out.b1).far (p := ⟨w.heap.size, 4, none⟩) (by show w.heap.size + 1 ≠ w.heap.size; omega) (.slice A' m cap)).putV ⟨ck, cn, ct, LA, ln, lc, A', m, cap⟩)
        refine bodyPost_ret (results_val rfl _ _ _ rfl _ ⟨ck, cn, ct, LA, ln, lc, A', m, cap⟩ q) rfl ?_
        refine J.out.done H.out HFL.out.symm HM.out (by unfold reach; omega) HQR.out ?_
        rw [HR.out, HFS.out]

end Go.Proofs.YtckeccfbadlhhaaDoor
