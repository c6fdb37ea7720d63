/- Contracts of the reference's Parts, count and levels. -/
import Derived.Test.YtckeccfbadlhhaaDoorValEach
import Derived.Test.YtckeccfbadlhhaaDoorValList
namespace Go.Proofs.YtckeccfbadlhhaaDoor
open Go.RowKit

/-- what Parts hands back -/
def PartsOk (x : Val) (w : World) (e : Ending) (w' : World) : Prop :=
  ∃ (A : Option Addr) (n c : Nat) (ps : List PV), e = .returned (.slice A n c) ∧ ps.map Prod.snd = x.parts ∧ SL (fun _ => True) w' A n c ps ∧ Below w.heap.size w w'

/-- the loops of Parts -/
structure PtInv (w : World) (c : VC) (ps : List PV) (i : Nat) (v : Value) (wr : World) : Prop where
  b0 : Blk wr w.heap.size 25 c.arr
  own : wr.ownsRow (w.heap.size + 1) 25 5 v i (flat recV (ps.take i))
  bel : Below w.heap.size w wr
theorem PtInv.next {w : World} {c : VC} {ps : List PV} {i : Nat} {v v' : Value} {wr w' : World} {o : Obj} {p : PV} (h : PtInv w c ps i v wr) (hp : ps[i]? = some p) (hg : (wr.alloc o).grownBy w' v.ownBlock)
    (ho : w'.ownsRow (w.heap.size + 1) 25 5 v' (i + 1) (flat recV (ps.take i) ++ recV p)) : PtInv w c ps (i + 1) v' w' := by
  have n1 : v.ownBlock ≠ some w.heap.size := own_ne h.own (by omega)
  refine ⟨(h.b0.alloc o).grown hg (fun e => n1 e.symm), by rw [take_snoc' hp, flat_snoc]; exact ho, ?_⟩
  exact (h.bel.alloc h.bel.size o).grown hg (by have := h.bel.size; show _ ≤ (wr.alloc o).heap.size; simp; omega) (fun q hq => by have := own_ge h.own q hq; omega)
theorem PtInv.done {w : World} {c : VC} {ps : List PV} {v : Value} {wr : World} {n : Nat} {x : Val} (h : PtInv w c ps n v wr) (hn : ps.length = n) (hz : n * 80 ≤ reach) (hx : ps.map Prod.snd = x.parts) (hr : ∀ p ∈ ps, RW w p.1 p.2) : PartsOk x w (.returned v) wr := by
  have ho := h.own
  rw [List.take_of_length_le (by omega)] at ho
  obtain ⟨A, c', rfl, hs⟩ := SL.of_own (F := fun _ => True) ho hn hz (fun _ _ => trivial) (fun p hp => (hr p hp).step h.bel)
  exact ⟨A, n, c', ps, rfl, hx, hs, h.bel⟩

set_option maxRecDepth 100000 in
set_option maxHeartbeats 1000000 in
theorem rparts_any (x : Val) (c : VC) (w : World) (h : RW w c x) : Calls Tryd.prog 25 #[c.val] w (PartsOk x w) := by
  obtain ⟨i0, hi0, hz0, hz1, hz2⟩ := info_parts info_value
  obtain ⟨ck, cn, ct, LA, ln, lc, DA, dn, dc⟩ := c
  have hk : ck = x.k := h.open.k
  have B0 : Hid (PtInv w ⟨ck, cn, ct, LA, ln, lc, DA, dn, dc⟩ [] 0 (.slice none 0 0) (w.alloc (Obj.cells #[.int .i64 ck, .int .i64 cn, .string ct, .slice LA ln lc, .slice DA dn dc] 25))) :=
    Lib.hid ⟨Blk.new_at rfl, own_nil _ _ _ _, (Below.refl _ _).alloc (Nat.le_refl _) _⟩
  cases h6 : (ck == 6)
  · cases h5 : (ck == 5)
    · have HP : Hid (x.parts = []) := by
        simp at h6 h5
        simp [Hid, Val.parts, ← hk, h6, h5]
      clear h hk
      go_enter Tryd.func25, Tryd.ntmps25
      go_wp2_with fail
      go_ret
      exact PtInv.done B0.out rfl (by decide) HP.out.symm (fun p hp => by simp at hp)
    · have HP : Hid (x.parts = x.d.map Fld.v) := by
        simp at h5
        simp [Hid, Val.parts, ← hk, h5]
      obtain ⟨fs, hps, hsl⟩ := h.sd
      simp only at hsl
      obtain ⟨ps, hpe⟩ : ∃ ps : List PV, ps = fs.map fun p => (p.1, p.2.v) := ⟨_, rfl⟩
      have HQE := Lib.hid hpe
      have HPR : Hid (∀ p ∈ ps, RW w p.1 p.2) := by
        rw [Hid, hpe]
        intro p hp
        obtain ⟨q, hq, rfl⟩ := List.mem_map.1 hp
        exact hsl.rv q hq
      have hz := hsl.sz
      unfold reach at hz
      have HL := Lib.hid hsl
      have HN : Hid (dn = ps.length) := by rw [Hid, hpe, List.length_map]; exact hsl.sr.ln
      have HX : Hid (ps.map Prod.snd = x.parts) := by rw [Hid, HP.out, ← hps, hpe]; simp
      have B1 : Hid (PtInv w ⟨ck, cn, ct, LA, ln, lc, DA, dn, dc⟩ ps 0 (.slice none 0 0) (w.alloc (Obj.cells #[.int .i64 ck, .int .i64 cn, .string ct, .slice LA ln lc, .slice DA dn dc] 25))) := Lib.hid ⟨B0.out.b0, B0.out.own, B0.out.bel⟩
      clear h hsl hps hk B0 hpe
      go_enter Tryd.func25, Tryd.ntmps25
      go_wp2_with fail
      go_loopw [3, 5] (fun v3 v5 wr => ∃ i : Nat, i ≤ dn ∧ v5 = .int .i64 i ∧ PtInv w ⟨ck, cn, ct, LA, ln, lc, DA, dn, dc⟩ ps i v3 wr) (fun _ v5 _ => dn - (intOf v5).toNat)
      case atStart => exact ⟨0, Nat.zero_le _, rfl, B1.out⟩
      case round =>
        obtain ⟨i, hi, rfl, I⟩ := hrel
        have J := Lib.hid I
        have q0 := I.b0.cell 0
        have q4 := I.b0.cell 4
        simp at q0 q4
        by_cases hlt : i < dn
        · obtain ⟨f, hf⟩ : ∃ f, fs[i]? = some f := ⟨_, List.getElem?_eq_getElem (by have := HL.out.sr.ln; omega)⟩
          obtain ⟨b, off, rfl, _, _, hu, _⟩ := HL.out.vat hf
          have hp : ps[i]? = some (f.1, f.2.v) := by rw [HQE.out, List.getElem?_map, hf]; rfl
          obtain ⟨y0, y1, y2, y3, y4⟩ := hu.keep (I.bel.block b hu.lt)
          have hb : b < wr.heap.size := by have := hu.lt; have := I.bel.size; omega
          have HQ := Lib.hid hp
          clear hp hu I hf
          have hsz := J.out.bel.size
          go_wp2_with (at_builtin; refine wpList_append_own _ rfl _ _ 22 rfl (w.heap.size + 1) 25 i0 VC.zero.val 5 80 Tryd.underlying22 hi0 hz0 hz1 hz2 rfl (by decide) u3 i (flat recV (ps.take i)) rfl (J.out.own.alloc _) ⟨wr.heap.size, 0, none⟩ 1 1 (recV (f.1, f.2.v)) rfl rfl ?c1 ?c2 ?c3 ?c4 ?c5 ?_)
          case c1 => exact news_at _ _ _
          case c2 => exact recV_one _
          case c3 => unfold maxLen; omega
          case c4 => omega
          case c5 => simp; have := J.out.b0.lt; omega
          intro v' w2 hown hg _
          have HI := Lib.hid (J.out.next HQ.out hg hown)
          clear hown hg q0 q4 y0 y1 y2 y3 y4
          go_wp2_with fail
          go_roundw
          case rel => exact ⟨i + 1, by omega, by go_num, HI.out⟩
          case measure => simp [intOf]; omega
        · obtain rfl : i = dn := by omega
          clear I
          go_wp2_with fail
          go_ret
          exact PtInv.done J.out HN.out.symm (by have := HL.out.sz; unfold reach at *; omega) HX.out HPR.out
  · have HP : Hid (x.parts = x.l) := by
      simp at h6
      simp [Hid, Val.parts, ← hk, h6]
    have h5 : (ck == 5) = false := by simp at h6 ⊢; omega
    obtain ⟨ps, hps, hsl⟩ := h.sl
    simp only at hsl
    have hz := hsl.sz
    unfold reach at hz
    have HL := Lib.hid hsl
    have HN := Lib.hid hsl.sr.ln
    have HX : Hid (ps.map Prod.snd = x.parts) := by rw [Hid, HP.out]; exact hps
    have B1 : Hid (PtInv w ⟨ck, cn, ct, LA, ln, lc, DA, dn, dc⟩ ps 0 (.slice none 0 0) (w.alloc (Obj.cells #[.int .i64 ck, .int .i64 cn, .string ct, .slice LA ln lc, .slice DA dn dc] 25))) := Lib.hid ⟨B0.out.b0, B0.out.own, B0.out.bel⟩
    clear h hsl hps hk B0
    go_enter Tryd.func25, Tryd.ntmps25
    go_wp2_with fail
    go_loopw [3, 4] (fun v3 v4 wr => ∃ i : Nat, i ≤ ln ∧ v4 = .int .i64 i ∧ PtInv w ⟨ck, cn, ct, LA, ln, lc, DA, dn, dc⟩ ps i v3 wr) (fun _ v4 _ => ln - (intOf v4).toNat)
    case atStart => exact ⟨0, Nat.zero_le _, rfl, B1.out⟩
    case round =>
      obtain ⟨i, hi, rfl, I⟩ := hrel
      have J := Lib.hid I
      have q0 := I.b0.cell 0
      have q3 := I.b0.cell 3
      simp at q0 q3
      by_cases hlt : i < ln
      · obtain ⟨p, hp⟩ : ∃ p, ps[i]? = some p := ⟨_, List.getElem?_eq_getElem (by have := HN.out; omega)⟩
        obtain ⟨b, off, rfl, _, hu, _⟩ := HL.out.vat hp
        obtain ⟨y0, y1, y2, y3, y4⟩ := hu.keep (I.bel.block b hu.lt)
        have hb : b < wr.heap.size := by have := hu.lt; have := I.bel.size; omega
        have HQ := Lib.hid hp
        clear hp hu I
        have hsz := J.out.bel.size
        go_wp2_with (at_builtin; refine wpList_append_own _ rfl _ _ 22 rfl (w.heap.size + 1) 25 i0 VC.zero.val 5 80 Tryd.underlying22 hi0 hz0 hz1 hz2 rfl (by decide) u3 i (flat recV (ps.take i)) rfl (J.out.own.alloc _) ⟨wr.heap.size, 0, none⟩ 1 1 (recV p) rfl rfl ?c1 ?c2 ?c3 ?c4 ?c5 ?_)
        case c1 => exact news_at _ _ _
        case c2 => exact recV_one p
        case c3 => unfold maxLen; omega
        case c4 => omega
        case c5 => simp; have := J.out.b0.lt; omega
        intro v' w2 hown hg _
        have HI := Lib.hid (J.out.next HQ.out hg hown)
        clear hown hg q0 q3 y0 y1 y2 y3 y4
        go_wp2_with fail
        go_roundw
        case rel => exact ⟨i + 1, by omega, by go_num, HI.out⟩
        case measure => simp [intOf]; omega
      · obtain rfl : i = ln := by omega
        clear I
        go_wp2_with fail
        go_ret
        exact PtInv.done J.out HN.out.symm HL.out.sz HX.out HL.out.rv

end Go.Proofs.YtckeccfbadlhhaaDoor
