/- The contract of value.Sort for short lists. -/
import Derived.Test.YtckeccfbadlhhaaDoorSortTV
import Derived.Test.YtckeccfbadlhhaaDoorValClone
namespace Go.Proofs.YtckeccfbadlhhaaDoor
open Go.RowKit

theorem ordV : Ordered (fun p q : PV => cmpV p.2 q.2) := ⟨fun _ _ => cmpV_anti _ _, fun _ _ _ => cmpV_tr _ _ _⟩
theorem ordVal : Ordered cmpV := ⟨fun _ _ => cmpV_anti _ _, fun _ _ _ => cmpV_tr _ _ _⟩
/-- m is l, sorted stably -/
def StV (l m : List Val) : Prop := ∃ S, Sorted cmpV (tagFrom 0 l) S ∧ S.map Prod.fst = m
theorem StV.unique {l m m' : List Val} (h : StV l m) (h' : StV l m') : m = m' := by
  obtain ⟨S, h1, rfl⟩ := h
  obtain ⟨S', h1', rfl⟩ := h'
  rw [sorted_unique ordVal h1.ord h1'.ord (h1.perm.trans h1'.perm.symm)]

theorem sortStableV_any (L : List (PV × Nat)) (g n c : Nat) (w : World) (hr : SRowV w g L) (hn : n = L.length) (hz : n * 80 ≤ reach) (ht : Tagged L) (hc : CmpOkV g w L) :
    Calls Tryd.prog 47 #[.slice (some ⟨g, 0, none⟩) n c, .func (.func 19) #[] #[]] w (IsDoneV g w [] L []) := by
  have HR := Lib.hid hr
  have HN := Lib.hid hn
  have HT := Lib.hid ht
  have HC := Lib.hid hc
  have HZ := Lib.hid hz
  clear hr hn ht hc hz
  go_enter Tryd.func47, Tryd.ntmps47
  go_wp2_with fail
  refine (stableV_any ordV L g n c _ HR.out HN.out HZ.out HT.out HC.out).mono ?_
  rintro e w1 hd
  have HD := Lib.hid hd
  obtain ⟨rfl, _⟩ := hd
  go_wp2_with fail
  go_end0
  exact HD.out

/-- the row of the copies, i elements done -/
structure SoL (w : World) (n : Nat) (l : List Val) (i : Nat) (wx : World) : Prop where
  row : Row wx w.heap.size 25 (n * 5)
  el : ∀ (j : Nat) (y : Val), j < i → l[j]? = some y → ∃ e, VAt wx w.heap.size (j * 5) e ∧ RV (fun b => w.heap.size < b) wx e y
  bel : Below w.heap.size w wx
theorem SoL.step {w wx w' : World} {n : Nat} {l : List Val} {i : Nat} (h : SoL w n l i wx) (hb : Below wx.heap.size wx w') : SoL w n l i w' :=
  ⟨h.row.step hb, fun j y hj hy => by obtain ⟨e, h1, h2⟩ := h.el j y hj hy; exact ⟨e, h1.step hb, h2.step hb⟩, h.bel.step' hb⟩
theorem SoL.next {w wx : World} {n : Nat} {l : List Val} {i : Nat} {y : Val} {u : VC} (h : SoL w n l i wx) (hi : i < n) (hy : l[i]? = some y) (hu : RV (fun b => w.heap.size < b) wx u y) :
    SoL w n l (i + 1) (setV wx w.heap.size (i * 5) u) := by
  have keep : ∀ {z : VC} {v : Val}, RV (fun b => w.heap.size < b) wx z v → RV (fun b => w.heap.size < b) (setV wx w.heap.size (i * 5) u) z v := fun hr => hr.keep fun b hb => heap_setV (by omega)
  refine ⟨h.row.putV _ _ _, fun j z hj hz => ?_, below_setV h.bel (Nat.le_refl _) _ _⟩
  by_cases e : j = i
  · subst e
    obtain rfl : y = z := by have := hy.symm.trans hz; simpa using this
    exact ⟨u, VAt.of_setV fun q hq => h.row.cell (by omega), keep hu⟩
  · obtain ⟨e', h1, h2⟩ := h.el j z (by omega) hz
    exact ⟨e', h1.setV_far (by omega), keep h2⟩
theorem flat_at {α : Type} {rec : α → List Value} {s : Nat} (hs : ∀ a, (rec a).length = s) (hp : 0 < s) (xs : List α) (k : Nat) (hk : k < xs.length * s) : ∃ a v, xs[k / s]? = some a ∧ (rec a)[k % s]? = some v ∧ (flat rec xs)[k]? = some v := by
  have h1 : k / s < xs.length := Nat.div_lt_of_lt_mul (by rw [Nat.mul_comm]; exact hk)
  have h2 : k % s < s := Nat.mod_lt _ hp
  refine ⟨xs[k / s], (rec xs[k / s])[k % s]'(by rw [hs]; exact h2), List.getElem?_eq_getElem h1, List.getElem?_eq_getElem (by rw [hs]; exact h2), ?_⟩
  have := flat_get hs (List.getElem?_eq_getElem h1) (List.getElem?_eq_getElem (l := rec xs[k / s]) (i := k % s) (by rw [hs]; exact h2))
  rw [show k / s * s + k % s = k by rw [Nat.mul_comm]; exact Nat.div_add_mod k s] at this
  exact this
/-- a row whose cells are known is the row of its elements -/
theorem SRowV.of_row {w : World} {g : Nat} {L : List (PV × Nat)} (h : Row w g 25 (L.length * 5)) (hel : ∀ j p, L[j]? = some p → VAt w g (j * 5) p.1.1) : SRowV w g L := by
  obtain ⟨cs, h1, h2⟩ := h
  have e : cs = (flat recTV L).toArray := by
    apply Array.ext'
    apply List.ext_getElem?
    intro k
    by_cases hk : k < L.length * 5
    · obtain ⟨p, v, g1, g2, g3⟩ := flat_at recTV_length (by omega) L k hk
      rw [List.toList_toArray, g3]
      have hc := h1.cell k
      have hv := vat_cell (hel (k / 5) p g1) (k % 5) v g2
      rw [show k / 5 * 5 + k % 5 = k by omega, hc] at hv
      rw [← hv]
      simp
    · rw [List.getElem?_eq_none (by simp; omega), List.getElem?_eq_none (by rw [List.toList_toArray, flat_length recTV_length]; omega)]
  refine ⟨[], ?_⟩
  rw [List.append_nil, ← e]
  exact h1

/-- what Sort hands back -/
def SortOk (l : List Val) (w : World) (e : Ending) (w' : World) : Prop :=
  ∃ (A : Option Addr) (n c : Nat) (ps : List PV), e = .returned (.slice A n c) ∧ StV l (ps.map Prod.snd) ∧ SL (fun b => w.heap.size ≤ b) w' A n c ps ∧ Below w.heap.size w w'

theorem SoL.rows {w wx : World} {n : Nat} {l : List Val} (h : SoL w n l n wx) (hn : n = l.length) : ∃ ps : List PV, ps.map Prod.snd = l ∧ SRowV wx w.heap.size (tagFrom 0 ps) ∧ ∀ p ∈ ps, RV (fun b => w.heap.size < b) wx p.1 p.2 := by
  obtain ⟨ps, h1, h2⟩ := choose_list (p := fun (j : Nat) (y : Val) (e : VC) => VAt wx w.heap.size (j * 5) e ∧ RV (fun b => w.heap.size < b) wx e y) (l := l) (fun j y hy => h.el j y (by have := (List.getElem?_eq_some_iff.1 hy).1; omega) hy)
  have hl : ps.length = n := by rw [hn, ← h1]; simp
  refine ⟨ps, h1, SRowV.of_row (by rw [tagFrom_length, hl]; exact h.row) (fun j p hp => ?_), fun p hp => ?_⟩
  · have hq : ps[j]? = some p.1 := by
      have := congrArg (Option.map Prod.fst) hp
      rw [← List.getElem?_map, tagFrom_map] at this
      simpa using this
    exact (h2 j p.1 hq).1
  · obtain ⟨j, hj⟩ := List.getElem?_of_mem hp
    exact (h2 j p hj).2
theorem tag_val (l : List PV) : ∀ n, (tagFrom n l).map (fun p => (p.1.2, p.2)) = tagFrom n (l.map Prod.snd) := by
  induction l with
  | nil => intro n; rfl
  | cons x r ih => intro n; simp [tagFrom, ih]
theorem Sorted.toVal {L S : List (PV × Nat)} (h : Sorted (fun p q : PV => cmpV p.2 q.2) L S) : Sorted cmpV (L.map fun p => (p.1.2, p.2)) (S.map fun p => (p.1.2, p.2)) := by
  refine ⟨h.perm.map _, ?_⟩
  rw [List.pairwise_map]
  exact h.ord

theorem SoL.done {w wr w2 : World} {n : Nat} {l : List Val} {ps qs : List PV} {S : List (PV × Nat)} (h : SoL w n l n wr) (hn : n = ps.length) (hq : qs.map Prod.snd = ps.map Prod.snd) (hf : ∀ p ∈ qs, RV (fun b => w.heap.size < b) wr p.1 p.2)
    (hs : Sorted (fun p q : PV => cmpV p.2 q.2) (tagFrom 0 qs) S) (hi : IsV w.heap.size wr ([] ++ S ++ []) w2) (hz : n < 1000) : SortOk (ps.map Prod.snd) w (.returned (.slice (some ⟨w.heap.size, 0, none⟩) n n)) w2 := by
  rw [List.nil_append, List.append_nil] at hi
  have hql : qs.length = n := by rw [hn]; have := congrArg List.length hq; simpa using this
  have hsl : S.length = n := by rw [hs.perm.length_eq, tagFrom_length, hql]
  have hmem : ∀ p ∈ S.map Prod.fst, p ∈ qs := by
    intro p hp
    obtain ⟨q, hq1, rfl⟩ := List.mem_map.1 hp
    rw [← tagFrom_map qs 0]
    exact List.mem_map_of_mem (hs.perm.subset hq1)
  refine ⟨_, n, n, S.map Prod.fst, rfl, ⟨S.map (fun p => (p.1.2, p.2)), ?_, by simp⟩, ⟨⟨by simp [hsl], Nat.le_refl _, fun _ => ⟨w.heap.size, 0, rfl, hi.row.lt, fun i a hia j v hj => ?_⟩⟩, by unfold reach; omega, fun _ => ⟨_, _, rfl, Nat.le_refl _, fun _ => hi.row.frozen⟩, fun p hp => ?_⟩, ?_⟩
  · have := hs.toVal
    rw [tag_val, hq] at this
    exact this
  · rw [List.getElem?_map] at hia
    obtain ⟨e, he, rfl⟩ := Option.map_eq_some_iff.1 hia
    rw [Nat.zero_add]
    exact hi.row.cell he j v hj
  · exact (hf p (hmem p hp)).keepG fun b hb hl => ⟨by omega, hi.but.block b hl (by omega)⟩
  · exact h.bel.trans (hi.but.below h.bel.size (Nat.le_refl _))

set_option maxRecDepth 100000 in
set_option maxHeartbeats 2000000 in
theorem sortV_any (ps : List PV) (A : Option Addr) (n c : Nat) (w : World) (h : SL (fun _ => True) w A n c ps) (h20 : n ≤ 200) : Calls Tryd.prog 22 #[.slice A n c] w (SortOk (ps.map Prod.snd) w) := by
  obtain ⟨i0, hi0, hz0, hz1, hz2⟩ := info_parts info_value
  have hmk := run_make_rowN (P := Tryd.prog) 22 25 i0 VC.zero.val Tryd.underlying22 hi0 hz0 n (by rw [hz2]; omega) (by omega)
  rw [hz1] at hmk
  have HP := Lib.hid h
  have HN := Lib.hid h.sr.ln
  clear h hi0 hz0 hz1 hz2
  go_enter Tryd.func22, Tryd.ntmps22
  go_wp2_with fail
  clear hmk
  go_loopw [11] (fun v11 wr => ∃ i : Nat, i ≤ n ∧ v11 = .int .i64 i ∧ SoL w n (ps.map Prod.snd) i wr) (fun v11 _ => n - (intOf v11).toNat)
  case atStart => exact ⟨0, Nat.zero_le _, rfl, ⟨_, Blk.new_at rfl, size_madeCells _ _⟩, fun j y hj => by omega, (Below.refl _ _).alloc (Nat.le_refl _) _⟩
  case round =>
    obtain ⟨i, hi, rfl, I⟩ := hrel
    have J := Lib.hid I
    by_cases hlt : i < n
    · obtain ⟨p, hp⟩ : ∃ p, ps[i]? = some p := ⟨_, List.getElem?_eq_getElem (by have := HN.out; omega)⟩
      have hy : (ps.map Prod.snd)[i]? = some p.2 := by rw [List.getElem?_map, hp]; rfl
      obtain ⟨b, off, rfl, _, hu, hr⟩ := HP.out.vat hp
      obtain ⟨y0, y1, y2, y3, y4⟩ := hu.keep (I.bel.block b hu.lt)
      have hb : b < wr.heap.size := by have := hu.lt; have := I.bel.size; omega
      have hA1 := (Below.refl wr.heap.size wr).alloc (Nat.le_refl _) (Obj.cells p.1.arr 25)
      have HR := Lib.hid ((hr.step I.bel).step hA1)
      have J1 := Lib.hid (I.step hA1)
      have HY := Lib.hid hy
      clear hp hy hu hr I hA1
      go_wp2_with fail
      refine (clone_any p.2 p.1 _ HR.out).mono ?_
      rintro e w1 ⟨c', mid, rfl, hcl, hb1⟩
      have J2 := J1.out.step hb1
      have z := J2.row.frozen
      obtain ⟨o0, p0⟩ := J2.row.cell (i := i * 5) (by omega)
      obtain ⟨o1, p1⟩ := J2.row.cell (i := i * 5 + 1) (by omega)
      obtain ⟨o2, p2⟩ := J2.row.cell (i := i * 5 + 2) (by omega)
      obtain ⟨o3, p3⟩ := J2.row.cell (i := i * 5 + 3) (by omega)
      obtain ⟨o4, p4⟩ := J2.row.cell (i := i * 5 + 4) (by omega)
      have hg := J.out.row.lt
      have HX := Lib.hid (J2.next hlt HY.out (hcl.rv.mono fun q hq => by simp at hq; omega))
      clear hcl hb1 J2 y0 y1 y2 y3 y4
      go_wp2_with fail
      clear p0 p1 p2 p3 p4 z
      go_roundw
      case rel => exact ⟨i + 1, by omega, by go_num, HX.out⟩
      case measure => simp [intOf]; omega
    · obtain rfl : i = n := by omega
      obtain ⟨qs, hq1, hq2, hq3⟩ := I.rows (by rw [List.length_map]; exact HN.out)
      have hql : i = (tagFrom 0 qs).length := by
        have hh := congrArg List.length hq1
        simp at hh
        rw [tagFrom_length, hh]
        exact HN.out
      have HC : Hid (CmpOkV w.heap.size wr (tagFrom 0 qs)) := fun x y hx hy wq hw => by
        have m1 : x.1 ∈ qs := by rw [← tagFrom_map qs 0]; exact List.mem_map_of_mem hx
        have m2 : y.1 ∈ qs := by rw [← tagFrom_map qs 0]; exact List.mem_map_of_mem hy
        exact cmp_any x.1.2 y.1.2 x.1.1 y.1.1 wq ((hq3 x.1 m1).keepG fun b hb hl => ⟨trivial, hw.block b hl (by omega)⟩) ((hq3 y.1 m2).keepG fun b hb hl => ⟨trivial, hw.block b hl (by omega)⟩)
      have HQ := Lib.hid hq1
      have HR := Lib.hid hq2
      have HL := Lib.hid hql
      have HF := Lib.hid hq3
      clear I hq1 hq2 hq3 hql
      go_wp2_with fail
      refine (sortStableV_any (tagFrom 0 qs) w.heap.size i i wr HR.out HL.out (by unfold reach; omega) (tagFrom_tagged qs 0) HC.out).mono ?_
      rintro e w2 ⟨rfl, S, hS, hI⟩
      have HS := Lib.hid hS
      have HI := Lib.hid hI
      clear hS hI
      go_wp2_with fail
      go_ret
      exact SoL.done J.out HN.out HQ.out HF.out HS.out HI.out (by omega)

end Go.Proofs.YtckeccfbadlhhaaDoor
