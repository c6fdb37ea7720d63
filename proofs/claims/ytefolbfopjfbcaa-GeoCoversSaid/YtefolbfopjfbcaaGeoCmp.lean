/- The comparison of reduce, and SortStableFunc with it. -/
import Derived.Test.YtefolbfopjfbcaaGeoFill
import Derived.Test.YtefolbfopjfbcaaSortTI
namespace Go.Proofs.Ytefolbfopjfbcaa
open Go.RowKit

set_option maxRecDepth 100000 in
set_option maxHeartbeats 1000000 in
theorem gap1_any (L : List Rg) (A : Option Addr) (n c mc i' j' : Nat) (w : World) (hl : SR 2 recR w A n c L) (hm : w.cell? ⟨mc, 0, none⟩ = some (.slice A n c)) (hb : ∀ r ∈ L, 0 ≤ r.1 ∧ r.1 ≤ 4294967296 ∧ 0 ≤ r.2 ∧ r.2 ≤ 4294967296) (hz : n ≤ 4294967296) (hi : i' + 1 < n) (hj : j' + 1 < n) :
    Calls Try.prog 48 #[.int .i64 ((i' + 1 : Nat) : Int), .int .i64 ((j' + 1 : Nat) : Int), .pointer (some ⟨mc, 0, none⟩)] w fun e w' => e = .returned (.int .i64 (gapL L ((j' + 1 : Nat) : Int) - gapL L ((i' + 1 : Nat) : Int))) ∧ Below w.heap.size w w' := by
  obtain ⟨b, off, rfl, hbb, hel⟩ := hl.el (by omega)
  have hlen := hl.ln
  have get : ∀ k, k < n → ∃ x, L[k]? = some x := fun k hk => ⟨_, List.getElem?_eq_getElem (by omega)⟩
  obtain ⟨⟨xa, xb⟩, hx⟩ := get (j' + 1) hj
  obtain ⟨⟨ya, yb⟩, hy⟩ := get j' (by omega)
  obtain ⟨⟨ua, ub⟩, hu⟩ := get (i' + 1) hi
  obtain ⟨⟨va, vb⟩, hv⟩ := get i' (by omega)
  have cx := hel _ _ hx 0 _ rfl
  have cy := hel _ _ hy 1 _ rfl
  have cu := hel _ _ hu 0 _ rfl
  have cv := hel _ _ hv 1 _ rfl
  rw [Nat.add_zero] at cx cu
  have hg : Hid (gapL L ((j' + 1 : Nat) : Int) - gapL L ((i' + 1 : Nat) : Int) = (xa - yb) - (ua - vb)) := by
    unfold Hid gapL
    rw [Int.toNat_natCast, Int.toNat_natCast, Nat.add_sub_cancel, Nat.add_sub_cancel, hx, hy, hu, hv]
  have bx := hb _ (List.mem_of_getElem? hx)
  have by' := hb _ (List.mem_of_getElem? hy)
  have bu := hb _ (List.mem_of_getElem? hu)
  have bv := hb _ (List.mem_of_getElem? hv)
  simp only at bx by' bu bv
  obtain ⟨x0, x1, _, _⟩ := bx
  obtain ⟨_, _, y0, y1⟩ := by'
  obtain ⟨u0, u1, _, _⟩ := bu
  obtain ⟨_, _, v0, v1⟩ := bv
  have M0 : ∀ q : BW w, q.val.cell? ⟨mc, 0, none⟩ = some (.slice (some ⟨b, off, none⟩) n c) := fun q => q.cell hm
  have X0 : ∀ q : BW w, q.val.cell? ⟨b, off + (j' + 1) * 2, none⟩ = some (.int .i64 xa) := fun q => q.cell cx
  have Y0 : ∀ q : BW w, q.val.cell? ⟨b, off + j' * 2 + 1, none⟩ = some (.int .i64 yb) := fun q => q.cell cy
  have U0 : ∀ q : BW w, q.val.cell? ⟨b, off + (i' + 1) * 2, none⟩ = some (.int .i64 ua) := fun q => q.cell cu
  have V0 : ∀ q : BW w, q.val.cell? ⟨b, off + i' * 2 + 1, none⟩ = some (.int .i64 vb) := fun q => q.cell cv
  obtain ⟨j, hjj⟩ : ∃ j, j = j' + 1 := ⟨_, rfl⟩
  obtain ⟨i, hii⟩ : ∃ i, i = i' + 1 := ⟨_, rfl⟩
  rw [← hjj] at X0 hj ⊢
  rw [← hii] at U0 hi ⊢
  have j1 : (j : Int) - 1 = (j' : Int) := by omega
  have i1 : (i : Int) - 1 = (i' : Int) := by omega
  have j0 : (0 : Int) ≤ (j : Int) := by omega
  have i0 : (0 : Int) ≤ (i : Int) := by omega
  have jn : (j : Int) < (n : Int) := by omega
  have i_n : (i : Int) < (n : Int) := by omega
  have jp : (1 : Int) ≤ (j : Int) := by omega
  have ip : (1 : Int) ≤ (i : Int) := by omega
  have j2 : (j' : Int) < (n : Int) := by omega
  have i2 : (i' : Int) < (n : Int) := by omega
  have jz : (0 : Int) ≤ (j' : Int) := by omega
  have iz : (0 : Int) ≤ (i' : Int) := by omega
  have nz : (n : Int) ≤ 4294967296 := by omega
  rw [← hjj, ← hii] at hg
  clear cx cy cu cv hx hy hu hv hb hel get hlen hjj hii hm hl
  go_enter Try.func48, Try.ntmps48
  go_upto_region 1 with fail
  refine wp_region_bw (by kernel_rfl) (by kernel_rfl) ?_
  repeat (go_big_quiet_step (fail))
  refine wpQuiet_nil ?_
  rintro _ ⟨kw, rfl⟩
  have HB := Lib.hid kw.below
  clear M0 X0 Y0 U0 V0
  generalize kw.val = w2 at *
  go_wp2_with fail
  go_ret
  exact ⟨by rw [hg.out]; rfl, HB.out⟩

/-- the comparison's contract on a row of numbers from 1 to n - 1 -/
theorem cmpOk_gap (L : List Rg) (A : Option Addr) (n c mc g : Nat) (w : World) (U : List (Int × Nat)) (hl : SR 2 recR w A n c L) (hm : w.cell? ⟨mc, 0, none⟩ = some (.slice A n c)) (hb : ∀ r ∈ L, 0 ≤ r.1 ∧ r.1 ≤ 4294967296 ∧ 0 ≤ r.2 ∧ r.2 ≤ 4294967296) (hz : n ≤ 4294967296)
    (hmg : mc ≠ g) (hag : ∀ b off, A = some ⟨b, off, none⟩ → b ≠ g) (hU : ∀ x ∈ U, ∃ k : Nat, k + 1 < n ∧ x.1 = ((k + 1 : Nat) : Int)) : @CmpOkI ⟨⟨mc, L⟩⟩ g w U := by
  intro x y hx hy wr hbut
  obtain ⟨i, hi, ei⟩ := hU x hx
  obtain ⟨j, hj, ej⟩ := hU y hy
  have hmlt := World.block_lt_of_cell? w _ hm
  have hm' : wr.cell? ⟨mc, 0, none⟩ = some (.slice A n c) := (World.cell?_of_block (w := w) (a := ⟨mc, 0, none⟩) (hbut.block mc hmlt hmg)).trans hm
  have hl' : SR 2 recR wr A n c L := by
    refine ⟨hl.ln, hl.lc, fun hn => ?_⟩
    obtain ⟨b, off, h1, h2, h3⟩ := hl.el hn
    exact ⟨b, off, h1, Nat.lt_of_lt_of_le h2 hbut.size, fun k a hk u v hv => (World.cell?_of_block (w := w) (a := ⟨b, off + k * 2 + u, none⟩) (hbut.block b h2 (hag b off h1))).trans (h3 k a hk u v hv)⟩
  have := gap1_any L A n c mc i j wr hl' hm' hb hz hi hj
  unfold aggI gapC
  rw [ei, ej]
  exact this

set_option maxHeartbeats 1000000 in
theorem sortStableI_any [Inhabited Ctx] (L0 : List (Int × Nat)) (g n c : Nat) (w : World) (hr : SRowI w g L0) (hn : n = L0.length) (hz : n * 8 ≤ reach) (ht : Tagged L0) (hc : CmpOkI g w L0) :
    Calls Try.prog 47 #[.slice (some ⟨g, 0, none⟩) n c, .func (.func 48) #[] #[.pointer (some ⟨(default : Ctx).mc, 0, none⟩)]] w (IsDoneI g w [] L0 []) := by
  have HC := Lib.hid (stableI_any gapC_ordered L0 g n c w hr hn hz ht hc)
  clear hr hn hz ht hc
  go_enter Try.func47, Try.ntmps47
  go_wp2_with fail
  refine HC.out.mono ?_
  rintro e w' ⟨rfl, hd⟩
  go_wp2_with fail
  go_end0
  exact ⟨rfl, hd⟩

end Go.Proofs.Ytefolbfopjfbcaa
