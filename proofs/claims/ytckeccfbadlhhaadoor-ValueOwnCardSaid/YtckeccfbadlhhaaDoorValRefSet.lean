/- Contracts of the reference's Set and Remove. -/
import Derived.Test.YtckeccfbadlhhaaDoorValSet2
namespace Go.Proofs.YtckeccfbadlhhaaDoor
open Go.RowKit

/-- what the reference hands back: it may share memory -/
def RSetOk (y : Val) (w : World) (e : Ending) (w' : World) : Prop := ∃ c : VC, e = .returned c.val ∧ RW w' c y ∧ Below w.heap.size w w'

/-- the fields that the reference's Set lays -/
def putF (fs : List PF) (j : Int) (e : VC) (v : Val) : List PF := fs.mapIdx fun i p => if (i : Int) = j then (e, .mk p.2.s v) else p
theorem putF_get (fs : List PF) (j : Int) (e : VC) (v : Val) (i : Nat) : (putF fs j e v)[i]? = (fs[i]?).map fun p => if (i : Int) = j then (e, .mk p.2.s v) else p := by
  simp [putF, List.getElem?_mapIdx]
theorem putF_length (fs : List PF) (j : Int) (e : VC) (v : Val) : (putF fs j e v).length = fs.length := by simp [putF]
theorem putF_snd (fs : List PF) (j : Nat) (e : VC) (v : Val) : (putF fs j e v).map Prod.snd = putD (fs.map Prod.snd) j v := by
  apply List.ext_getElem?
  intro i
  rw [List.getElem?_map, putF_get, putD_get, List.getElem?_map]
  cases fs[i]? with
  | none => rfl
  | some p =>
    simp only [Option.map_some]
    by_cases h : i = j
    · subst h; simp
    · rw [if_neg (by omega), if_neg h]
theorem putF_none (fs : List PF) (e : VC) (v : Val) : putF fs (-1) e v = fs := by
  apply List.ext_getElem?
  intro i
  rw [putF_get]
  cases fs[i]? with
  | none => rfl
  | some p => simp only [Option.map_some]; rw [if_neg (by omega)]

/-- the loop of the reference's Set -/
structure RtI (w : World) (c e : VC) (qs : List PF) (i : Nat) (v : Value) (wr : World) : Prop where
  b0 : Blk wr w.heap.size 25 c.arr
  b1 : Blk wr (w.heap.size + 1) 25 e.arr
  b2 : Blk wr (w.heap.size + 1 + 1) 25 VC.zero.arr
  own : wr.ownsRow (w.heap.size + 3) 42 6 v i (flat recF (qs.take i))
  bel : Below w.heap.size w wr
theorem RtI.step {w : World} {c e : VC} {qs : List PF} {i : Nat} {v : Value} {wr w' : World} (h : RtI w c e qs i v wr) (hb : Below wr.heap.size wr w') : RtI w c e qs i v w' :=
  ⟨h.b0.step hb, h.b1.step hb, h.b2.step hb, own_step h.own hb, h.bel.step' hb⟩
theorem RtI.lo {w : World} {c e : VC} {qs : List PF} {i : Nat} {v : Value} {wr : World} (h : RtI w c e qs i v wr) : w.heap.size + 3 ≤ wr.heap.size := by have := h.b2.lt; omega
theorem RtI.next {w : World} {c e : VC} {qs : List PF} {i m : Nat} {v v' : Value} {wr w' : World} {q : PF} (h : RtI w c e qs i v wr) (hq : qs[i]? = some q) (hg : wr.grownBy w' v.ownBlock)
    (hm : i + 1 = m) (ho : w'.ownsRow (w.heap.size + 3) 42 6 v' m (flat recF (qs.take i) ++ recF q)) : RtI w c e qs (i + 1) v' w' := by
  subst hm
  exact ⟨h.b0.grown hg (fun e => own_ne h.own (by omega) e.symm), h.b1.grown hg (fun e => own_ne h.own (by omega) e.symm), h.b2.grown hg (fun e => own_ne h.own (by omega) e.symm),
    by rw [take_snoc' hq, flat_snoc]; exact ho, h.bel.grown hg h.bel.size (fun k hk => by have := own_ge h.own k hk; omega)⟩
theorem RtI.add {w : World} {c e : VC} {qs : List PF} {i m : Nat} {v v' : Value} {wr w' : World} {q : PF} (h : RtI w c e qs i v wr) (hl : qs.length = i) (hg : wr.grownBy w' v.ownBlock)
    (hm : i + 1 = m) (ho : w'.ownsRow (w.heap.size + 3) 42 6 v' m (flat recF (qs.take i) ++ recF q)) : RtI w c e (qs ++ [q]) (i + 1) v' w' := by
  have h' : RtI w c e (qs ++ [q]) i v wr := ⟨h.b0, h.b1, h.b2, by rw [List.take_append_of_le_length (by omega)]; exact h.own, h.bel⟩
  exact h'.next (q := q) (by rw [List.getElem?_append_right (by omega), hl]; simp) hg hm (by rw [List.take_append_of_le_length (by omega)]; exact ho)

theorem RtI.far {w : World} {c e u : VC} {qs : List PF} {i ga off : Nat} {v : Value} {wr : World} (h : RtI w c e qs i v wr) (hg : w.heap.size + 3 ≤ ga) (ho : v.ownBlock ≠ some ga) : RtI w c e qs i v (setV wr ga off u) :=
  ⟨h.b0.farV (by omega) _ _, h.b1.farV (by omega) _ _, h.b2.farV (by omega) _ _, own_keep h.own fun g hh => heap_setV (by rintro rfl; exact ho hh), below_setV h.bel (by omega) _ _⟩
theorem Blk.field {w : World} {g : Nat} {p : PF} (h : Blk w g 42 (recF p).toArray) : w.cell? ⟨g, 0, none⟩ = some (.string p.2.s) ∧ VAt w g 1 p.1 := by
  refine ⟨by rw [h.cell]; rfl, by rw [h.cell]; rfl, by rw [h.cell]; rfl, by rw [h.cell]; rfl, by rw [h.cell]; rfl, by rw [h.cell]; rfl⟩
theorem Blk.fieldV {w : World} {g : Nat} {p : PF} (h : Blk w g 42 (recF p).toArray) (e : VC) (v : Val) : Blk (setV w g 1 e) g 42 (recF (e, .mk p.2.s v)).toArray :=
  ((((h.set_ 1 _).set_ 2 _).set_ 3 _).set_ 4 _).set_ 5 _

/-- the end: the row becomes the document's -/
theorem RtI.done {w : World} {ck cn : Int} {ct : ByteArray} {LA DA A' : Option Addr} {ln lc dn dc m cap : Nat} {e : VC} {qs : List PF} {wr : World} {x : Val} {y : Val}
    (h : RtI w ⟨ck, cn, ct, LA, ln, lc, DA, dn, dc⟩ e qs m (.slice A' m cap) wr) (hx : RW w ⟨ck, cn, ct, LA, ln, lc, DA, dn, dc⟩ x) (hl : qs.length = m) (hz : m * 96 ≤ reach) (hs : ∀ q ∈ qs, q.2.s.size ≤ reach ∧ RW w q.1 q.2.v)
    (hy : y = .mk x.k x.n x.t x.l (qs.map Prod.snd)) :
    RSetOk y w (.returned (VC.val ⟨ck, cn, ct, LA, ln, lc, A', m, cap⟩)) (setV (wr.setCell ⟨w.heap.size, 4, none⟩ (.slice A' m cap)) (w.heap.size + 1 + 1) 0 ⟨ck, cn, ct, LA, ln, lc, A', m, cap⟩) := by
  subst hy
  have hlo := h.lo
  have hB : Below w.heap.size w (setV (wr.setCell ⟨w.heap.size, 4, none⟩ (.slice A' m cap)) (w.heap.size + 1 + 1) 0 ⟨ck, cn, ct, LA, ln, lc, A', m, cap⟩) :=
    below_setV (h.bel.setCell (Nat.le_refl _) _) (by omega) _ _
  have ho := h.own
  rw [List.take_of_length_le (by omega)] at ho
  have ho' := own_keep (w' := setV (wr.setCell ⟨w.heap.size, 4, none⟩ (.slice A' m cap)) (w.heap.size + 1 + 1) 0 ⟨ck, cn, ct, LA, ln, lc, A', m, cap⟩) ho fun g hg => by
    have := own_ge ho g hg
    rw [heap_setV (by omega), Below.heap_setCell _ _ _ _ (by show g ≠ w.heap.size; omega)]
  obtain ⟨A, cc, heq, hsd⟩ := SD.of_own (F := fun _ => True) ho' hl hz (fun _ _ => trivial) (fun p hp => (hs p hp).1) (fun p hp => (hs p hp).2.step hB)
  cases heq
  have hxo := hx.open
  obtain ⟨ps, hps, hsl⟩ := hx.sl
  have := RV.of_slices (k := ck) (m := cn) (t := ct) (by have := hxo.t; simp only at this; rw [this]; exact hxo.tsz) (hsl.step hB) hsd
  refine ⟨_, rfl, ?_, hB⟩
  have e1 := hxo.k
  have e2 := hxo.n
  have e3 := hxo.t
  simp only at e1 e2 e3
  rw [hps, e1, e2, e3] at this
  rw [← e1, ← e2, ← e3] at this ⊢
  exact this

set_option maxRecDepth 100000 in
set_option maxHeartbeats 2000000 in
theorem rset_any (x v : Val) (c e : VC) (name : ByteArray) (w : World) (h : RW w c x) (he : RW w e v) (hn : name.size ≤ reach) (hbig : (x.d.length + 1) * 96 ≤ reach) :
    Calls Tryd.prog 29 #[c.val, .string name, e.val] w (RSetOk (setW x name v) w) := by
  obtain ⟨j0, hj0, hy0, hy1, hy2⟩ := info_parts info_field
  obtain ⟨ck, cn, ct, LA, ln, lc, DA, dn, dc⟩ := c
  have hk : ck = x.k := h.open.k
  have H := Lib.hid h
  have HE := Lib.hid he
  have HNm := Lib.hid hn
  have HBig := Lib.hid hbig
  have hdn : dn = x.d.length := h.open.dn
  have hz : (dn + 1) * 96 ≤ 140737488355328 := by rw [hdn]; exact hbig
  have B0 : Hid (RtI w ⟨ck, cn, ct, LA, ln, lc, DA, dn, dc⟩ e [] 0 (.slice none 0 0) (((w.alloc (Obj.cells #[.int .i64 ck, .int .i64 cn, .string ct, .slice LA ln lc, .slice DA dn dc] 25)).alloc (Obj.cells e.arr 25)).alloc (Obj.cells VC.zero.arr 25))) :=
    Lib.hid ⟨((Blk.new_at rfl).alloc _).alloc _, (Blk.new_at (by simp)).alloc _, Blk.new_at (by simp), own_nil _ _ _ _, (((Below.refl _ _).alloc (Nat.le_refl _) _).alloc (by simp) _).alloc (by simp; omega) _⟩
  by_cases h5 : ck = 5
  · subst h5
    obtain ⟨fs, hfs, hsd⟩ := h.sd
    simp only at hsd
    have HS := Lib.hid hsd
    have HFS := Lib.hid hfs
    have HDN := Lib.hid hdn
    have HK := Lib.hid hk
    have HFL := Lib.hid hsd.sr.ln
    clear h he hn hbig hdn hsd hfs hk
    go_enter Tryd.func29, Tryd.ntmps29
    go_wp2_with fail
    refine (rat_any x ⟨5, cn, ct, LA, ln, lc, DA, dn, dc⟩ name _ (H.out.step B0.out.bel)).mono ?_
    rintro e1 w1 ⟨rfl, hb1⟩
    obtain ⟨kI, hkI⟩ : ∃ k, k = findI x name := ⟨_, rfl⟩
    have HKI := Lib.hid hkI
    have hkr : kI = -1 ∨ ∃ j : Nat, kI = j ∧ j < x.d.length := by
      rcases findI_range x name with hf | ⟨j, hf, f, hj⟩
      · exact .inl (by omega)
      · exact .inr ⟨j, by omega, (List.getElem?_eq_some_iff.1 hj).1⟩
    have HKR := Lib.hid hkr
    rw [← hkI]
    have B1 : Hid (RtI w ⟨5, cn, ct, LA, ln, lc, DA, dn, dc⟩ e (putF fs kI e v) 0 (.slice none 0 0) w1) := by
      have := B0.out.step hb1
      exact Lib.hid ⟨this.b0, this.b1, this.b2, own_nil _ _ _ _, this.bel⟩
    clear hb1 hkI B0 hkr
    go_wp2_with fail
    go_loopw [8, 9] (fun v8 v9 wr => ∃ i : Nat, i ≤ dn ∧ v9 = .int .i64 i ∧ RtI w ⟨5, cn, ct, LA, ln, lc, DA, dn, dc⟩ e (putF fs kI e v) i v8 wr) (fun _ v9 _ => dn - (intOf v9).toNat)
    case atStart => exact ⟨0, Nat.zero_le _, rfl, B1.out⟩
    case round =>
      obtain ⟨i, hi, rfl, I⟩ := hrel
      have J := Lib.hid I
      have q4 := I.b0.cell 4
      simp at q4
      by_cases hlt : i < dn
      · obtain ⟨p, hp⟩ : ∃ p, fs[i]? = some p := ⟨_, List.getElem?_eq_getElem (by have := HFL.out; omega)⟩
        obtain ⟨b, off, rfl, _, hs0, hu, _⟩ := HS.out.vat hp
        have HQ : Hid ((putF fs kI e v)[i]? = some (if (i : Int) = kI then (e, .mk p.2.s v) else p)) := by rw [Hid, putF_get, hp]; rfl
        have hbl : b < wr.heap.size := by have := hu.lt; have := I.bel.size; omega
        have y5 := (I.bel.cell (p := ⟨b, off + i * 6, none⟩) hu.lt).trans hs0
        obtain ⟨y0, y1, y2, y3, y4⟩ := hu.keep (I.bel.block b hu.lt)
        have hl0 := I.lo
        clear hp hu I hs0
        go_upto_region 9 with fail
        have KB : Blk (wr.alloc (Obj.cells (recF p).toArray 42)) wr.heap.size 42 (recF p).toArray := Blk.new_at rfl
        have K := J.out.step ((Below.refl wr.heap.size wr).alloc (Nat.le_refl _) (Obj.cells (recF p).toArray 42))
        have hno : u8.ownBlock ≠ some wr.heap.size := fun hh => absurd (own_lt J.out.own hh) (by omega)
        clear y0 y1 y2 y3 y4 y5 q4
        change (Code.region 9 _ _).wp _ _ _ (wr.alloc (Obj.cells (recF p).toArray 42))
        generalize wr.alloc (Obj.cells (recF p).toArray 42) = wa at *
        generalize wr.heap.size = ga at *
        have LB := Lib.hid KB
        have LK := Lib.hid K
        clear KB K
        go_upto_if 32 with fail
        go_cut [] (fun wx => Blk wx ga 42 (recF (if (i : Int) = kI then (e, .mk p.2.s v) else p)).toArray ∧ RtI w ⟨5, cn, ct, LA, ln, lc, some ⟨b, off, none⟩, dn, dc⟩ e (putF fs kI e v) i u8 wx)
        case first => as_aux_lemma =>
          by_cases hik : (i : Int) = kI
          · subst hik
            obtain ⟨y5, y0, y1, y2, y3, y4⟩ := LB.out.field
            obtain ⟨v0, v1, v2, v3, v4⟩ := VAt.of_blk LK.out.b1
            have z := LB.out.frozen
            have hne : w.heap.size + 1 ≠ ga := by omega
            go_wp2_with fail
            go_meet
            exact ⟨by rw [if_pos trivial]; exact LB.out.fieldV e v, LK.out.far hl0 hno⟩
          · have hik' : ((i : Int) == kI) = false := by simp [hik]
            go_wp2_with fail
            go_meet
            exact ⟨by rw [if_neg hik]; exact LB.out, LK.out⟩
        case rest =>
          obtain ⟨KB, K⟩ := hcut
          obtain ⟨q, hq⟩ : ∃ q, q = (if (i : Int) = kI then (e, .mk p.2.s v) else p) := ⟨_, rfl⟩
          rw [← hq] at KB HQ
          obtain ⟨y5, y0, y1, y2, y3, y4⟩ := KB.field
          have LK2 := Lib.hid (K.step ((Below.refl wc.heap.size wc).alloc (Nat.le_refl _) (Obj.cells (recF q).toArray 42)))
          have hl2 := K.lo
          clear KB K hq
          go_wp2_with (at_builtin; refine wpList_append_any _ rfl _ _ 23 rfl (w.heap.size + 3) 42 j0 (.agg (#[.string ByteArray.empty] ++ VC.zero.arr)) 6 96 Tryd.underlying23 hj0 hy0 hy1 hy2 rfl (by decide) u8 i (flat recF ((putF fs kI e v).take i)) rfl LK2.out.own _ _ 1 _ (recF q) rfl ⟨rfl, fun _ => ⟨_, rfl, Nat.lt_succ_self _, news_at _ _ _⟩⟩ (recF_one _) (by unfold maxLen; omega) (by omega) ?c5 ?_)
          case c5 => first | omega | (simp; omega)
          intro v' w2 hown hg _
          have HI := Lib.hid (LK2.out.next HQ.out hg (by omega) hown)
          clear hown hg y0 y1 y2 y3 y4 y5
          go_wp2_with fail
          go_roundw
          case rel => exact ⟨i + 1, by omega, by go_num, HI.out⟩
          case measure => simp [intOf]; omega
      · obtain rfl : i = dn := by omega
        have hqr : ∀ q ∈ putF fs kI e v, q.2.s.size ≤ reach ∧ RW w q.1 q.2.v := by
          intro q hq
          obtain ⟨a, ha⟩ := List.getElem?_of_mem hq
          rw [putF_get] at ha
          obtain ⟨p, hp, rfl⟩ := Option.map_eq_some_iff.1 ha
          have hm := List.mem_of_getElem? hp
          by_cases hik : (a : Int) = kI
          · rw [if_pos hik]; exact ⟨HS.out.ns p hm, HE.out⟩
          · rw [if_neg hik]; exact ⟨HS.out.ns p hm, HS.out.rv p hm⟩
        have HQR := Lib.hid hqr
        have hl0 := I.lo
        clear hqr I
        rcases HKR.out with rfl | ⟨j, rfl, hj⟩
        · obtain ⟨v0, v1, v2, v3, v4⟩ := VAt.of_blk J.out.b1
          have LK2 := Lib.hid (J.out.step ((Below.refl wr.heap.size wr).alloc (Nat.le_refl _) (Obj.cells (recF (e, .mk name v)).toArray 42)))
          go_wp2_with (at_builtin; refine wpList_append_any _ rfl _ _ 23 rfl (w.heap.size + 3) 42 j0 (.agg (#[.string ByteArray.empty] ++ VC.zero.arr)) 6 96 Tryd.underlying23 hj0 hy0 hy1 hy2 rfl (by decide) u8 i (flat recF ((putF fs (-1) e v).take i)) rfl LK2.out.own _ _ 1 _ (recF (e, .mk name v)) rfl ⟨rfl, fun _ => ⟨_, rfl, Nat.lt_succ_self _, news_at _ _ _⟩⟩ (recF_one _) (by unfold maxLen; omega) (by omega) ?c5 ?_)
          case c5 => first | omega | (simp; omega)
          intro v' w2 hown hg _
          have HI := Lib.hid (LK2.out.add (by rw [putF_length]; exact HFL.out.symm) hg (by omega) hown)
          clear hown hg v0 v1 v2 v3 v4 q4
          obtain ⟨A', cap, rfl, _⟩ := own_slice HI.out.own
          obtain ⟨a0, a1, a2, a3, a4⟩ := VAt.of_blk HI.out.b0
          obtain ⟨b0, b1, b2, b3, b4⟩ := VAt.of_blk HI.out.b2
          have z0 := HI.out.b0.frozen
          have z2 := HI.out.b2.frozen
          go_wp2_with fail
          have q := VAt.of_blk (((HI.out.b2).far (p := ⟨w.heap.size, 4, none⟩) (by show w.heap.size + 1 + 1 ≠ w.heap.size; omega) (.slice A' (i + 1) cap)).putV ⟨5, cn, ct, LA, ln, lc, A', i + 1, cap⟩)
          refine bodyPost_ret (results_val rfl _ _ _ rfl _ ⟨5, cn, ct, LA, ln, lc, A', i + 1, cap⟩ q) rfl ?_
          refine HI.out.done H.out (by rw [List.length_append, putF_length]; simp [HFL.out]) hz (fun q hq => ?_) ?_
          · rcases List.mem_append.1 hq with hq | hq
            · exact HQR.out q hq
            · simp at hq
              subst hq
              exact ⟨HNm.out, HE.out⟩
          · unfold setW
            rw [if_pos HK.out.symm, if_pos (by have := HKI.out; omega), putF_none, List.map_append, HFS.out]
            rfl
        · obtain ⟨A', cap, rfl, _⟩ := own_slice J.out.own
          obtain ⟨a0, a1, a2, a3, a4⟩ := VAt.of_blk J.out.b0
          obtain ⟨b0, b1, b2, b3, b4⟩ := VAt.of_blk J.out.b2
          have z0 := J.out.b0.frozen
          have z2 := J.out.b2.frozen
          clear q4
          go_wp2_with fail
          have q := VAt.of_blk (((J.out.b2).far (p := ⟨w.heap.size, 4, none⟩) (by show w.heap.size + 1 + 1 ≠ w.heap.size; omega) (.slice A' i cap)).putV ⟨5, cn, ct, LA, ln, lc, A', i, cap⟩)
          refine bodyPost_ret (results_val rfl _ _ _ rfl _ ⟨5, cn, ct, LA, ln, lc, A', i, cap⟩ q) rfl ?_
          refine J.out.done H.out (by rw [putF_length]; exact HFL.out.symm) (by unfold reach; omega) HQR.out ?_
          unfold setW
          have hki := HKI.out
          rw [if_pos HK.out.symm, if_neg (by omega), putF_snd, HFS.out, ← hki]
          rfl
  · have HK5 : Hid (x.k ≠ 5) := by rw [Hid, ← hk]; exact h5
    have hc5 : (ck != 5) = true := by simp [h5]
    obtain ⟨a0, a1, a2, a3, a4⟩ := VAt.of_blk B0.out.b0
    obtain ⟨b0, b1, b2, b3, b4⟩ := VAt.of_blk B0.out.b2
    have z2 := B0.out.b2.frozen
    clear h he hn hbig hdn hk h5 a0 a1 a2 a3 a4 b0 b1 b2 b3 b4 z2
    go_enter Tryd.func29, Tryd.ntmps29
    go_upto_region 1 with fail
    change (Code.region 1 _ _).wp _ _ _ (((w.alloc (Obj.cells #[.int .i64 ck, .int .i64 cn, .string ct, .slice LA ln lc, .slice DA dn dc] 25)).alloc (Obj.cells e.arr 25)).alloc (Obj.cells VC.zero.arr 25))
    generalize ((w.alloc (Obj.cells #[.int .i64 ck, .int .i64 cn, .string ct, .slice LA ln lc, .slice DA dn dc] 25)).alloc (Obj.cells e.arr 25)).alloc (Obj.cells VC.zero.arr 25) = wa at *
    obtain ⟨a0, a1, a2, a3, a4⟩ := VAt.of_blk B0.out.b0
    obtain ⟨b0, b1, b2, b3, b4⟩ := VAt.of_blk B0.out.b2
    have z2 := B0.out.b2.frozen
    go_wp2_with fail
    have q := VAt.of_blk (B0.out.b2.putV ⟨ck, cn, ct, LA, ln, lc, DA, dn, dc⟩)
    refine bodyPost_ret (results_val rfl _ _ _ rfl _ ⟨ck, cn, ct, LA, ln, lc, DA, dn, dc⟩ q) rfl ?_
    have hB : Below w.heap.size w (setV wa (w.heap.size + 1 + 1) 0 ⟨ck, cn, ct, LA, ln, lc, DA, dn, dc⟩) := below_setV B0.out.bel (by omega) 0 ⟨ck, cn, ct, LA, ln, lc, DA, dn, dc⟩
    refine ⟨⟨ck, cn, ct, LA, ln, lc, DA, dn, dc⟩, rfl, ?_, hB⟩
    unfold setW
    rw [if_neg HK5.out]
    exact H.out.step hB

end Go.Proofs.YtckeccfbadlhhaaDoor
