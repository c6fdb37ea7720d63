/- The contract of geo.fill: it computes fillR. Printed by gen_geofill.py. -/
import Derived.Test.YtefolbfopjfbcaaGeoReducePure
import Derived.Test.YtefolbfopjfbcaaGeoCell
import Derived.Test.YtefolbfopjfbcaaGeoBounds
import Derived.Test.YtefolbfopjfbcaaKit3
import Derived.Test.YtefolbfopjfbcaaKit7
namespace Go.Proofs.Ytefolbfopjfbcaa
open Go.RowKit

def recR (r : Rg) : List Value := [.int .i64 r.1, .int .i64 r.2]
theorem recR_length (r : Rg) : (recR r).length = 2 := rfl
abbrev flatR (l : List Rg) : List Value := flat recR l
theorem flatR_app (l m : List Rg) : flatR (l ++ m) = flatR l ++ flatR m := flat_append recR l m
theorem info_range : (Try.prog.info? 46).map (fun i => (i.zero, i.size, i.bytes)) = some (some (.agg #[.int .i64 0, .int .i64 0]), 2, 16) := by kernel_rfl
/-- what fill hands back: the row, what has changed in memory -/
def FillOk (base : Nat) (v : Value) (L : List Rg) (w : World) (e : Ending) (w' : World) : Prop :=
  ∃ v' : Value, e = .returned v' ∧ w'.ownsRow base 46 2 v' L.length (flatR L) ∧ w.grownBy w' v.ownBlock ∧ (v'.ownBlock = v.ownBlock ∨ ∃ g, v'.ownBlock = some g ∧ w.heap.size ≤ g)
theorem FillOk.eq {base : Nat} {v : Value} {L L' : List Rg} {w w' : World} {e : Ending} (h : L' = L) (hf : FillOk base v L w e w') : FillOk base v L' w e w' := by rw [h]; exact hf
theorem grown_below {w w' : World} (h : Below w.heap.size w w') (row : Option Nat) : w.grownBy w' row := ⟨h.os, h.tape, h.output, h.size, fun k hk _ => h.block k hk⟩
theorem fill_app {w w1 w' : World} {o : Obj} {base n : Nat} {v v' : Value} {L' : List Rg} (hb : Below w.heap.size w w1) (hg : (w1.alloc o).grownBy w' v.ownBlock) (hat : v'.ownBlock = v.ownBlock ∨ v'.ownBlock = some (w1.alloc o).heap.size) (hn : n = L'.length) (ho : w'.ownsRow base 46 2 v' n (flatR L')) : FillOk base v L' w (.returned v') w' := by
  subst hn
  have h1 := hb.size
  have ss : (w1.alloc o).heap.size = w1.heap.size + 1 := by simp
  have h2 := hg.size
  refine ⟨v', rfl, ho, ⟨?_, ?_, ?_, by omega, fun k hk hne => ?_⟩, hat.imp id fun h => ⟨_, h, by omega⟩⟩
  · rw [hg.os]; exact hb.os
  · rw [hg.tape]; exact hb.tape
  · rw [hg.output]; exact hb.output
  · rw [hg.block k (by omega) hne, Below.heap_alloc w1 o k (by omega)]
    exact hb.block k hk
theorem half_facts {P Hn : Nat} (h : P = 2 * Hn) (hp : P ≤ 65536) : (P : Int).tdiv 2 = (Hn : Int) ∧ wrap64 (Hn : Int) = (Hn : Int) ∧ (P : Int) / 2 = (Hn : Int) ∧ P / 2 = Hn := by
  have h2 : (P : Int) / 2 = (Hn : Int) := by omega
  exact ⟨by rw [Int.tdiv_eq_ediv_of_nonneg (Int.natCast_nonneg P)]; exact h2, by unfold wrap64; omega, h2, by omega⟩
theorem wrap_pow {k : Nat} (hk : k ≤ 16) {P : Nat} (hP : P = 2 ^ k) : wrap64 ((2 : Int) ^ k) = (P : Int) := by
  have h1 : P ≤ 2 ^ 16 := by rw [hP]; exact Nat.pow_le_pow_right (by omega) hk
  have h2 : ((2 : Int) ^ k) = (P : Int) := by rw [hP]; push_cast; rfl
  rw [h2]
  unfold wrap64
  omega
theorem own_frozen {w : World} {base g n cap size : Nat} {e : TypeId} {xs : List Value} (h : w.ownsRow base e size (.slice (some ⟨g, 0, none⟩) n cap) n xs) (i : Nat) : w.frozen? ⟨g, i, none⟩ = false := by
  rcases h.2 with ⟨h1, _⟩ | ⟨g', cap', cur, h1, _, hh, _⟩
  · cases h1
  · injection h1 with h1 _ _
    injection h1 with h1
    injection h1 with h1
    subst h1
    simp [World.frozen?, hh]
/-- the last range of a row is put anew -/
theorem own_last {w : World} {base g cap n : Nat} {e : TypeId} {d : List Rg} {r : Rg} (h : w.ownsRow base e 2 (.slice (some ⟨g, 0, none⟩) n cap) n (flatR (d ++ [r]))) (b : Int) :
    (w.setCell ⟨g, d.length * 2 + 1, none⟩ (.int .i64 b)).ownsRow base e 2 (.slice (some ⟨g, 0, none⟩) n cap) n (flatR (d ++ [(r.1, b)])) := by
  have hl := flat_length recR_length
  have e1 : flatR (d ++ [(r.1, b)]) = (flatR (d ++ [r])).set (d.length * 2 + 1) (.int .i64 b) := by
    rw [flatR_app, flatR_app, List.set_append_right _ _ (by rw [hl]; omega), hl]
    rw [show d.length * 2 + 1 - d.length * 2 = 1 by omega]
    rfl
  refine ⟨by rw [e1, List.length_set]; exact h.1, .inr ?_⟩
  rcases h.2 with ⟨h1, _⟩ | ⟨g', cap', cur, h1, hb, hh, hc, hm, hs, ht⟩
  · cases h1
  · injection h1 with h1 _ h2
    injection h1 with h1
    injection h1 with h1
    subst h1 h2
    have hlt : g < w.heap.size := by
      rcases Nat.lt_or_ge g w.heap.size with hlt | hge
      · exact hlt
      · rw [Array.getElem?_eq_none hge] at hh; cases hh
    refine ⟨g, cap, cur.setIfInBounds (d.length * 2 + 1) (.int .i64 b), rfl, hb, ?_, hc, hm, by simpa using hs, ?_⟩
    · exact Blk.set_ (t := e) hh (d.length * 2 + 1) (.int .i64 b)
    · rw [e1, ← ht]
      simp only [Array.toList_setIfInBounds]
      rw [List.take_set]

/-- the parts of a quadrant, one after the other -/
def partR (k : Nat) (L : List Rg) (cx cy : Nat) (bx : Box) : Nat → List Rg
  | 0 => L
  | i + 1 => fillR k (partR k L cx cy bx i) (cx + 2 ^ k * (i % 2)) (cy + 2 ^ k * (i / 2)) bx
theorem partR_succ (k : Nat) (L : List Rg) (cx cy : Nat) (bx : Box) (i : Nat) : partR k L cx cy bx (i + 1) = fillR k (partR k L cx cy bx i) (cx + 2 ^ k * (i % 2)) (cy + 2 ^ k * (i / 2)) bx := rfl
/-- the loop of fill -/
structure FiI (w : World) (cx cy : Nat) (lx ly ux uy : Int) (base : Nat) (v0 v : Value) (L : List Rg) (wr : World) : Prop where
  b0 : Blk wr w.heap.size 27 #[.int .i64 (cx : Int), .int .i64 (cy : Int)]
  b1 : Blk wr (w.heap.size + 1) 27 #[.int .i64 lx, .int .i64 ly]
  b2 : Blk wr (w.heap.size + 2) 27 #[.int .i64 ux, .int .i64 uy]
  own : wr.ownsRow base 46 2 v L.length (flatR L)
  gb : w.grownBy wr v0.ownBlock
  sz : w.heap.size + 4 ≤ wr.heap.size
  old : ∀ g, v0.ownBlock = some g → g < w.heap.size
  blk : v.ownBlock = v0.ownBlock ∨ ∃ g, v.ownBlock = some g ∧ w.heap.size + 4 ≤ g
theorem FiI.next {w wr w' : World} {cx cy base : Nat} {lx ly ux uy : Int} {v0 v : Value} {L L' : List Rg} {e : Ending} (h : FiI w cx cy lx ly ux uy base v0 v L wr) (o : Obj) (hf : FillOk base v L' (wr.alloc o) e w') :
    ∃ v', e = .returned v' ∧ FiI w cx cy lx ly ux uy base v0 v' L' w' := by
  obtain ⟨v', he, ho, hg, hb⟩ := hf
  have hs := hg.size
  have h4 := h.sz
  have ss : (wr.alloc o).heap.size = wr.heap.size + 1 := by simp
  have keep : ∀ b, b < wr.heap.size → (∀ g, v0.ownBlock = some g → b ≠ g) → b < w.heap.size + 4 → w'.heap[b]? = wr.heap[b]? := by
    intro b hb1 hb2 hb3
    rw [hg.block b (by omega) ?_]
    · exact Below.heap_alloc wr o b hb1
    · intro hx
      rcases h.blk with h1 | ⟨g, h1, h2⟩
      · rw [h1] at hx
        exact hb2 b hx.symm rfl
      · rw [h1] at hx
        injection hx with hx
        omega
  have nv : ∀ b, w.heap.size ≤ b → ∀ g, v0.ownBlock = some g → b ≠ g := fun b hb g hg => by have := h.old g hg; omega
  refine ⟨v', he, (keep _ (by omega) (nv _ (by omega)) (by omega)).trans h.b0, (keep _ (by omega) (nv _ (by omega)) (by omega)).trans h.b1, (keep _ (by omega) (nv _ (by omega)) (by omega)).trans h.b2, ho, ⟨?_, ?_, ?_, ?_, fun k hk hne => ?_⟩, by omega, h.old, ?_⟩
  · rw [hg.os]; exact h.gb.os
  · rw [hg.tape]; exact h.gb.tape
  · rw [hg.output]; exact h.gb.output
  · have := h.gb.size; omega
  · rw [keep k (by omega) (fun g hg' e => hne (by rw [hg', e])) (by omega)]
    exact h.gb.block k hk hne
  · rcases hb with h1 | ⟨g, h1, h2⟩
    · rw [h1]; exact h.blk
    · exact .inr ⟨g, h1, by omega⟩

theorem cellN_scale {k q r : Nat} : ∀ t, cellN (k + t) (2 ^ k * q) (2 ^ k * r) = 4 ^ k * cellN t q r
  | 0 => by
    have h0 := cellN_low (k := k) (q := q) (r := r) 0 0 k (Nat.le_refl _)
    rw [Nat.add_zero, Nat.add_zero, cellN_zero] at h0
    rw [Nat.add_zero, h0, cellN, Nat.mul_zero]
  | t + 1 => by
    show cellN (k + t + 1) _ _ = _
    have hp : 0 < 2 ^ k := Nat.two_pow_pos k
    have e : ∀ x, 2 ^ k * x / 2 ^ (k + t) = x / 2 ^ t := fun x => by rw [Nat.pow_add, Nat.mul_div_mul_left _ _ hp]
    simp only [cellN]
    rw [cellN_scale t, e, e, Nat.pow_add, Nat.mul_assoc, ← Nat.mul_add]
theorem quad_top {k q r : Nat} (hk : k ≤ 16) : cellN 16 (2 ^ k * q) (2 ^ k * r) + 4 ^ k ≤ 4294967296 := by
  have h1 := cellN_scale (k := k) (q := q) (r := r) (16 - k)
  rw [show k + (16 - k) = 16 by omega] at h1
  have h2 := cellN_lt (16 - k) q r
  have h3 : 4 ^ k * (cellN (16 - k) q r + 1) ≤ 4 ^ k * 4 ^ (16 - k) := Nat.mul_le_mul_left _ h2
  rw [← Nat.pow_add, show k + (16 - k) = 16 by omega, Nat.mul_add, Nat.mul_one, ← h1] at h3
  exact h3

theorem part_facts {k q r cx cy a b : Nat} (hk : k + 1 ≤ 16) (hcx : cx = 2 ^ (k + 1) * q) (hcy : cy = 2 ^ (k + 1) * r) (ha : a < 2) (hb : b < 2) :
    cx + 2 ^ k * a = 2 ^ k * (2 * q + a) ∧ cy + 2 ^ k * b = 2 ^ k * (2 * r + b) ∧ cellN 16 (cx + 2 ^ k * a) (cy + 2 ^ k * b) = cellN 16 cx cy + 4 ^ k * (a + 2 * b) := by
  subst hcx hcy
  exact ⟨part_corner, part_corner, cell_part hk ha hb⟩
theorem partR_ok {A : Int} {bx : Box} {k q r cx cy : Nat} {L : List Rg} (hk : k + 1 ≤ 16) (hcx : cx = 2 ^ (k + 1) * q) (hcy : cy = 2 ^ (k + 1) * r) (hL : RgOk A (cellN 16 cx cy) L) (hA : A ≤ cellN 16 cx cy) :
    ∀ i, i ≤ 4 → RgOk A ((cellN 16 cx cy + 4 ^ k * i : Nat) : Int) (partR k L cx cy bx i)
  | 0, _ => by simpa [partR] using hL
  | i + 1, h => by
    have ih := partR_ok (bx := bx) hk hcx hcy hL hA i (by omega)
    obtain ⟨h1, h2, h3⟩ := part_facts (a := i % 2) (b := i / 2) hk hcx hcy (by omega) (by omega)
    rw [show i % 2 + 2 * (i / 2) = i by omega] at h3
    rw [partR, h1, h2]
    rw [h1, h2] at h3
    rw [← h3] at ih
    have := fillR_ok (bx := bx) k _ _ _ (by omega) ih (by rw [h3]; omega)
    rw [h3] at this
    rw [Nat.mul_add, Nat.mul_one, ← Nat.add_assoc]
    exact this
theorem fillR_parts {k cx cy : Nat} {L : List Rg} {bx : Box} (h1 : ¬((cx : Int) > bx.2.2.1 ∨ ((cx + 2 ^ (k + 1) - 1 : Nat) : Int) < bx.1 ∨ (cy : Int) > bx.2.2.2 ∨ ((cy + 2 ^ (k + 1) - 1 : Nat) : Int) < bx.2.1))
    (h2 : ¬(bx.1 ≤ (cx : Int) ∧ ((cx + 2 ^ (k + 1) - 1 : Nat) : Int) ≤ bx.2.2.1 ∧ bx.2.1 ≤ (cy : Int) ∧ ((cy + 2 ^ (k + 1) - 1 : Nat) : Int) ≤ bx.2.2.2)) : fillR (k + 1) L cx cy bx = partR k L cx cy bx 4 := by
  rw [fillR, if_neg h1, if_neg h2]
  simp [partR]

/-- the contract of fill at a size -/
def FillAt (k : Nat) : Prop := ∀ (cx cy q r : Nat) (L : List Rg) (v : Value) (A : Int) (bx : Box) (base : Nat) (w : World), cx = 2 ^ k * q → cy = 2 ^ k * r → cx + 2 ^ k ≤ 65536 → cy + 2 ^ k ≤ 65536 → 0 ≤ A → RgOk A (cellN 16 cx cy) L → A ≤ cellN 16 cx cy → InBox bx →
    w.ownsRow base 46 2 v L.length (flatR L) → base ≤ w.heap.size →
    Calls Try.prog 40 #[v, pt cx cy, .int .i64 k, pt bx.1 bx.2.1, pt bx.2.2.1 bx.2.2.2] w (FillOk base v (fillR k L cx cy bx) w)

set_option maxRecDepth 100000 in
set_option maxHeartbeats 2000000 in
theorem fill_step (k : Nat) (hk : k ≤ 16) (ih : ∀ k', k = k' + 1 → FillAt k') : FillAt k := by
  intro cx cy q r L v A bx base w hcx hcy hx hy hA hL hAL hbx hown hbase
  obtain ⟨lx, ly, ux, uy⟩ := bx
  obtain ⟨Av, cv, rfl, hlc⟩ := own_slice hown
  have hvl := fun g hg => own_lt hown (g := g) hg
  obtain ⟨n, hn⟩ : ∃ n, n = L.length := ⟨_, rfl⟩
  have HN := Lib.hid hn
  rw [← hn] at hown hlc hvl ⊢
  clear hn
  have HVL := Lib.hid hvl
  have HOW := Lib.hid hown
  have HL := Lib.hid hL
  have HAL := Lib.hid hAL
  have HIH := Lib.hid ih
  have HQ := Lib.hid (And.intro hcx hcy)
  have HBA := Lib.hid hbase
  have hp : 0 < 2 ^ k := Nat.two_pow_pos k
  obtain ⟨P, hP⟩ : ∃ P, P = 2 ^ k := ⟨_, rfl⟩
  have HPK := Lib.hid hP
  have hwp := wrap_pow hk hP
  rw [← hP] at hx hy hp
  clear hown hL hAL ih hcx hcy hP hvl hbase hlc
  obtain ⟨b1, b2, b3, b4, b5, b6, b7, b8⟩ := hbx
  simp only at b1 b2 b3 b4 b5 b6 b7 b8
  have xi : (cx : Int) + (P : Int) ≤ 65536 := by omega
  have yi : (cy : Int) + (P : Int) ≤ 65536 := by omega
  have pi : (0 : Int) < (P : Int) := by omega
  have cx0 : (0 : Int) ≤ (cx : Int) := by omega
  have cy0 : (0 : Int) ≤ (cy : Int) := by omega
  have B0 : Hid (Blk ((((w.alloc (Obj.cells #[.int .i64 (cx : Int), .int .i64 (cy : Int)] 27)).alloc (Obj.cells #[.int .i64 lx, .int .i64 ly] 27)).alloc (Obj.cells #[.int .i64 ux, .int .i64 uy] 27)).alloc (Obj.cells #[.int .i64 ((cx : Int) + (P : Int) - 1), .int .i64 ((cy : Int) + (P : Int) - 1)] 27)) w.heap.size 27 #[.int .i64 (cx : Int), .int .i64 (cy : Int)]) := (((Blk.new_at rfl).alloc _).alloc _).alloc _
  have B1 : Hid (Blk ((((w.alloc (Obj.cells #[.int .i64 (cx : Int), .int .i64 (cy : Int)] 27)).alloc (Obj.cells #[.int .i64 lx, .int .i64 ly] 27)).alloc (Obj.cells #[.int .i64 ux, .int .i64 uy] 27)).alloc (Obj.cells #[.int .i64 ((cx : Int) + (P : Int) - 1), .int .i64 ((cy : Int) + (P : Int) - 1)] 27)) (w.heap.size + 1) 27 #[.int .i64 lx, .int .i64 ly]) := ((Blk.new_at (by simp)).alloc _).alloc _
  have B2 : Hid (Blk ((((w.alloc (Obj.cells #[.int .i64 (cx : Int), .int .i64 (cy : Int)] 27)).alloc (Obj.cells #[.int .i64 lx, .int .i64 ly] 27)).alloc (Obj.cells #[.int .i64 ux, .int .i64 uy] 27)).alloc (Obj.cells #[.int .i64 ((cx : Int) + (P : Int) - 1), .int .i64 ((cy : Int) + (P : Int) - 1)] 27)) (w.heap.size + 2) 27 #[.int .i64 ux, .int .i64 uy]) := (Blk.new_at (by simp)).alloc _
  have B3 : Hid (Blk ((((w.alloc (Obj.cells #[.int .i64 (cx : Int), .int .i64 (cy : Int)] 27)).alloc (Obj.cells #[.int .i64 lx, .int .i64 ly] 27)).alloc (Obj.cells #[.int .i64 ux, .int .i64 uy] 27)).alloc (Obj.cells #[.int .i64 ((cx : Int) + (P : Int) - 1), .int .i64 ((cy : Int) + (P : Int) - 1)] 27)) (w.heap.size + 3) 27 #[.int .i64 ((cx : Int) + (P : Int) - 1), .int .i64 ((cy : Int) + (P : Int) - 1)]) := Blk.new_at (by simp)
  have HBE : Hid (Below w.heap.size w ((((w.alloc (Obj.cells #[.int .i64 (cx : Int), .int .i64 (cy : Int)] 27)).alloc (Obj.cells #[.int .i64 lx, .int .i64 ly] 27)).alloc (Obj.cells #[.int .i64 ux, .int .i64 uy] 27)).alloc (Obj.cells #[.int .i64 ((cx : Int) + (P : Int) - 1), .int .i64 ((cy : Int) + (P : Int) - 1)] 27))) := ((((Below.refl _ _).alloc (Nat.le_refl _) _).alloc (by simp) _).alloc (by simp; omega) _).alloc (by simp; omega) _
  have HSZ : Hid (((((w.alloc (Obj.cells #[.int .i64 (cx : Int), .int .i64 (cy : Int)] 27)).alloc (Obj.cells #[.int .i64 lx, .int .i64 ly] 27)).alloc (Obj.cells #[.int .i64 ux, .int .i64 uy] 27)).alloc (Obj.cells #[.int .i64 ((cx : Int) + (P : Int) - 1), .int .i64 ((cy : Int) + (P : Int) - 1)] 27)).heap.size = w.heap.size + 4) := by simp [Hid]
  go_enter Try.func40, Try.ntmps40
  go_upto_region 2 with fail
  rw [hwp]
  clear hwp
  go_upto_region 3 with fail
  change (Code.region 3 _ _).wp _ _ _ ((((w.alloc (Obj.cells #[.int .i64 (cx : Int), .int .i64 (cy : Int)] 27)).alloc (Obj.cells #[.int .i64 lx, .int .i64 ly] 27)).alloc (Obj.cells #[.int .i64 ux, .int .i64 uy] 27)).alloc (Obj.cells #[.int .i64 ((cx : Int) + (P : Int) - 1), .int .i64 ((cy : Int) + (P : Int) - 1)] 27))
  generalize ((((w.alloc (Obj.cells #[.int .i64 (cx : Int), .int .i64 (cy : Int)] 27)).alloc (Obj.cells #[.int .i64 lx, .int .i64 ly] 27)).alloc (Obj.cells #[.int .i64 ux, .int .i64 uy] 27)).alloc (Obj.cells #[.int .i64 ((cx : Int) + (P : Int) - 1), .int .i64 ((cy : Int) + (P : Int) - 1)] 27)) = wb at *
  have e0 := B0.out.cell 0
  have e1 := B0.out.cell 1
  have l0 := B1.out.cell 0
  have l1 := B1.out.cell 1
  have u0 := B2.out.cell 0
  have u1 := B2.out.cell 1
  have d0 := B3.out.cell 0
  have d1 := B3.out.cell 1
  simp at e0 e1 l0 l1 u0 u1 d0 d1
  by_cases h1 : ux < (cx : Int)
  · have HF : Hid (fillR k L cx cy (lx, ly, ux, uy) = L) := by
      unfold Hid fillR
      rw [if_pos]
      rw [← HPK.out]
      simp only
      omega
    go_wp2_with fail
    go_ret
    exact FillOk.eq HF.out ⟨_, rfl, by rw [← HN.out]; exact own_step HOW.out HBE.out, grown_below HBE.out _, .inl rfl⟩
  by_cases h2 : (cx : Int) + (P : Int) - 1 < lx
  · have HF : Hid (fillR k L cx cy (lx, ly, ux, uy) = L) := by
      unfold Hid fillR
      rw [if_pos]
      rw [← HPK.out]
      simp only
      omega
    go_wp2_with fail
    go_ret
    exact FillOk.eq HF.out ⟨_, rfl, by rw [← HN.out]; exact own_step HOW.out HBE.out, grown_below HBE.out _, .inl rfl⟩
  by_cases h3 : uy < (cy : Int)
  · have HF : Hid (fillR k L cx cy (lx, ly, ux, uy) = L) := by
      unfold Hid fillR
      rw [if_pos]
      rw [← HPK.out]
      simp only
      omega
    go_wp2_with fail
    go_ret
    exact FillOk.eq HF.out ⟨_, rfl, by rw [← HN.out]; exact own_step HOW.out HBE.out, grown_below HBE.out _, .inl rfl⟩
  by_cases h4 : (cy : Int) + (P : Int) - 1 < ly
  · have HF : Hid (fillR k L cx cy (lx, ly, ux, uy) = L) := by
      unfold Hid fillR
      rw [if_pos]
      rw [← HPK.out]
      simp only
      omega
    go_wp2_with fail
    go_ret
    exact FillOk.eq HF.out ⟨_, rfl, by rw [← HN.out]; exact own_step HOW.out HBE.out, grown_below HBE.out _, .inl rfl⟩
  by_cases hin : lx ≤ (cx : Int) ∧ (cx : Int) + (P : Int) - 1 ≤ ux ∧ ly ≤ (cy : Int) ∧ (cy : Int) + (P : Int) - 1 ≤ uy
  · obtain ⟨g1, g2, g3, g4⟩ := hin
    have HF : Hid (fillR k L cx cy (lx, ly, ux, uy) = pushR L (cellN 16 cx cy) ((cellN 16 cx cy + 4 ^ k - 1 : Nat) : Int)) := by
      unfold Hid fillR
      rw [if_neg, if_pos]
      · rw [← HPK.out]; simp only; omega
      · rw [← HPK.out]; simp only; omega
    have HCI : Hid (cellI (cx : Int) (cy : Int) = ((cellN 16 cx cy : Nat) : Int)) := by
      unfold Hid cellI
      rw [if_pos]
      · simp
      · unfold pointB coordB; simp; omega
    have hc1 := cellN_le cx cy 16 (by omega)
    have hc2 : cellN 16 cx cy + 4 ^ k ≤ 4294967296 := by
      rw [HQ.out.1, HQ.out.2]
      exact quad_top hk
    have h44 : P * P = 4 ^ k := by rw [HPK.out, ← Nat.mul_pow]
    obtain ⟨PP, hPP⟩ : ∃ PP, PP = 4 ^ k := ⟨_, rfl⟩
    have hpp : (P : Int) * (P : Int) = (PP : Int) := by rw [hPP, ← h44]; push_cast; rfl
    have hpp0 : 0 < PP := by rw [hPP]; exact Nat.pow_pos (by omega)
    rw [← hPP] at hc2 HF
    clear h44 hPP
    obtain ⟨C, hC⟩ : ∃ C, C = cellN 16 cx cy := ⟨_, rfl⟩
    rw [← hC] at hc1 hc2 HF HCI
    rw [← hC] at HL HAL
    clear hC
    go_upto_region 6 with fail
    go_wp2_with fail
    refine (cell_any (cx : Int) (cy : Int) wb).mono ?_
    rintro e w1 ⟨rfl, hb1⟩
    rw [HCI.out]
    have ci1 : (C : Int) + (PP : Int) ≤ 4294967296 := by omega
    have ci2 : (0 : Int) < (PP : Int) := by omega
    have B1E := Lib.hid (HBE.out.step' hb1)
    have OW1 := Lib.hid (own_step HOW.out B1E.out)
    have hsz1 : w.heap.size + 4 ≤ w1.heap.size := by have := HSZ.out; have := hb1.size; omega
    clear hb1 HOW B0 B1 B2 B3 HBE HIH HVL
    go_upto_region 9 with fail
    clear e0 e1 l0 l1 u0 u1 d0 d1 h1 h2 h3 h4 g1 g2 g3 g4 b1 b2 b3 b4 b5 b6 b7 b8
    obtain ⟨j0, hj0, hy0, hy1, hy2⟩ := info_parts info_range
    have hlast : Hid ((C : Int) + (PP : Int) - 1 = ((C + PP - 1 : Nat) : Int)) := by unfold Hid; omega
    have HRX : Hid (Reads (w1.alloc (Obj.cells #[.int .i64 (C : Int), .int .i64 ((C : Int) + (PP : Int) - 1)] 46)) (w1.heap.size + 1) 2 (some ⟨w1.heap.size, 0, none⟩) 1 (recR ((C : Int), (C : Int) + (PP : Int) - 1))) := ⟨rfl, fun _ => ⟨_, rfl, by show w1.heap.size < w1.heap.size + 1; omega, fun j' u hu => news_at w1 46 (recR ((C : Int), (C : Int) + (PP : Int) - 1)) j' u hu⟩⟩
    have H1B : Hid (∀ u ∈ recR ((C : Int), (C : Int) + (PP : Int) - 1), u.oneCell' = true) := Lib.hid (by intro u hu; simp [recR] at hu; rcases hu with rfl | rfl <;> rfl)
    have OW2 : Hid ((w1.alloc (Obj.cells #[.int .i64 (C : Int), .int .i64 ((C : Int) + (PP : Int) - 1)] 46)).ownsRow base 46 2 (.slice Av n cv) n (flatR L)) := own_step OW1.out ((Below.refl _ _).alloc (Nat.le_refl _) _)
    have hnz : n * 2 ≤ 8589934592 := by
      have h5 := HL.out.len_le
      have h6 := HN.out
      omega
    rcases List.eq_nil_or_concat L with hL | ⟨d, r, hL⟩
    · have hn0 : n = 0 := by rw [HN.out, hL]; rfl
      subst hn0
      have HLL := Lib.hid hL
      clear hL hnz
      have hnz : 0 * 2 ≤ 8589934592 := by omega
      go_wp2_with (at_builtin; (refine wpList_append_any _ rfl _ _ 42 rfl base 46 j0 (.agg #[.int .i64 0, .int .i64 0]) 2 16 Try.underlying42 hj0 hy0 hy1 hy2 rfl (by decide) (.slice Av 0 cv) 0 (flatR L) rfl OW2.out (w1.heap.size + 1) (some ⟨w1.heap.size, 0, none⟩) 1 1 (recR ((C : Int), (C : Int) + (PP : Int) - 1)) rfl HRX.out H1B.out (by unfold maxLen; omega) (by omega) (by have := HBA.out; simp; omega) ?_))
      intro v' w' ho hg hat
      go_wp2_with fail
      go_ret
      have ho2 : w'.ownsRow base 46 2 v' 1 (flatR [((C : Int), ((C + PP - 1 : Nat) : Int))]) := by rw [← hlast.out]; rw [HLL.out] at ho; exact ho
      have hat2 : v'.ownBlock = (Value.slice Av 0 cv).ownBlock ∨ v'.ownBlock = some (w1.alloc (Obj.cells #[.int .i64 (C : Int), .int .i64 ((C : Int) + (PP : Int) - 1)] 46)).heap.size := by simpa using hat
      exact FillOk.eq (HF.out.trans (by rw [HLL.out, pushR_nil])) (fill_app B1E.out hg hat2 rfl ho2)
    · rw [List.concat_eq_append] at hL
      obtain ⟨m, hm⟩ : ∃ m, m = d.length := ⟨_, rfl⟩
      have hn1 : n = m + 1 := by rw [HN.out, hL, hm]; simp
      have hLm : L[m]? = some r := by rw [hL, hm, List.getElem?_append_right (Nat.le_refl _)]; simp
      subst hn1
      rcases OW1.out.2 with ⟨_, h'⟩ | ⟨g, cap, cur, hv, hrest⟩
      · omega
      injection hv with hv1 _ hv2
      clear hrest cur
      subst hv1 hv2
      obtain ⟨ra, rb⟩ := r
      have q1 : w1.cell? ⟨g, m * 2 + 1, none⟩ = some (.int .i64 rb) := by
        have := OW1.out.cells (g := g) rfl (m * 2 + 1) (.int .i64 rb) (flat_get recR_length hLm (j := 1) rfl)
        simpa [addr_add] using this
      have zf := own_frozen OW1.out (m * 2 + 1)
      have hrm := List.mem_of_getElem? hLm
      have hr1 := HL.out.hi _ hrm
      have hr2 := HL.out.lo _ hrm
      have hr3 := HL.out.ne _ hrm
      simp only at hr1 hr2 hr3
      have m0 : (0 : Int) ≤ (m : Int) := by omega
      have rb0 : (0 : Int) ≤ rb := by omega
      have rb1 : rb < 4294967296 := by omega
      have hgs0 : g < w1.heap.size := World.block_lt_of_cell? w1 _ q1
      have hgs : g < w1.heap.size + 1 := by omega
      have HLL := Lib.hid hL
      have HM := Lib.hid hm
      clear hL hLm hrm hr1 hr2 hr3 hm
      by_cases hjn : rb + 1 = (C : Int)
      · have hjb : (rb + 1 == (C : Int)) = true := by simpa using hjn
        go_wp2_with fail
        go_ret
        refine FillOk.eq (HF.out.trans (by rw [HLL.out, pushR_join d _ _ _ hjn])) ⟨_, rfl, ?_, ⟨?_, ?_, ?_, ?_, fun k hk hne => ?_⟩, .inl rfl⟩
        · have h1 := OW1.out
          rw [HLL.out] at h1
          have h2 := own_last h1 ((C + PP - 1 : Nat) : Int)
          rw [← HM.out, ← hlast.out] at h2
          have e : (d ++ [(ra, ((C + PP - 1 : Nat) : Int))]).length = m + 1 := by simp [HM.out]
          rw [← hlast.out] at e ⊢
          rw [e]
          exact h2
        · exact B1E.out.os
        · exact B1E.out.tape
        · exact B1E.out.output
        · have := B1E.out.size; simpa [World.setCell] using this
        · rw [Below.heap_setCell _ _ _ k (fun e => hne (by rw [e]; rfl))]
          exact B1E.out.block k hk
      · have hjb : (rb + 1 == (C : Int)) = false := by simpa using hjn
        have HJN := Lib.hid hjn
        clear hjn
        go_upto_region 12 with fail
        have e12 : Hid (d.length + 1 + 1 = m + 1 + 1) := by unfold Hid; rw [← HM.out]
        clear q1 zf m0 rb0 rb1 hgs0 hgs HM hjb
        generalize m + 1 = n1 at *
        have h63 : n1 + 1 ≤ maxLen := by unfold maxLen; omega
        have hbt : (n1 + 1) * 16 ≤ 140737488355328 := by omega
        have hbb : base ≤ (w1.alloc (Obj.cells #[.int .i64 (C : Int), .int .i64 ((C : Int) + (PP : Int) - 1)] 46)).heap.size := by have := HBA.out; simp; omega
        have H63 := Lib.hid h63
        have HBT := Lib.hid hbt
        have HBB := Lib.hid hbb
        clear h63 hbt hbb hnz
        go_wp2_with (at_builtin; (refine wpList_append_any _ rfl _ _ 42 rfl base 46 j0 (.agg #[.int .i64 0, .int .i64 0]) 2 16 Try.underlying42 hj0 hy0 hy1 hy2 rfl (by decide) (.slice (some ⟨g, 0, none⟩) n1 cv) n1 (flatR L) rfl OW2.out (w1.heap.size + 1) (some ⟨w1.heap.size, 0, none⟩) 1 1 (recR ((C : Int), (C : Int) + (PP : Int) - 1)) rfl HRX.out H1B.out H63.out HBT.out HBB.out ?_))
        intro v' w' ho hg hat
        go_wp2_with fail
        go_ret
        have ho2 : w'.ownsRow base 46 2 v' (n1 + 1) (flatR (d ++ [(ra, rb)] ++ [((C : Int), ((C + PP - 1 : Nat) : Int))])) := by rw [flatR_app, ← HLL.out, ← hlast.out]; exact ho
        have hat2 : v'.ownBlock = (Value.slice (some ⟨g, 0, none⟩) n1 cv).ownBlock ∨ v'.ownBlock = some (w1.alloc (Obj.cells #[.int .i64 (C : Int), .int .i64 ((C : Int) + (PP : Int) - 1)] 46)).heap.size := by simpa using hat
        exact FillOk.eq (HF.out.trans (by rw [HLL.out, pushR_add d _ _ _ HJN.out])) (fill_app B1E.out hg hat2 (by have := e12.out; simp; omega) ho2)
  · obtain ⟨k', hkk⟩ : ∃ k', k = k' + 1 := by
      cases k with
      | zero => have := HPK.out; simp at this; omega
      | succ k' => exact ⟨k', rfl⟩
    have HK2 := Lib.hid hkk
    have HFR : Hid (fillR k L cx cy (lx, ly, ux, uy) = partR k' L cx cy (lx, ly, ux, uy) 4) := by
      unfold Hid
      rw [hkk]
      refine fillR_parts ?_ ?_
      · rw [← hkk, ← HPK.out]; simp only; omega
      · rw [← hkk, ← HPK.out]; simp only; omega
    obtain ⟨Hn, hHn⟩ : ∃ Hn, Hn = 2 ^ k' := ⟨_, rfl⟩
    have HHN := Lib.hid hHn
    have hP2 : P = 2 * Hn := by rw [HPK.out, hHn, hkk, Nat.pow_succ]; omega
    have HKK : Hid (k' + 1 ≤ 16) := by rw [← hkk]; exact hk
    have HQ1 : Hid (cx = 2 ^ (k' + 1) * q) := by rw [← hkk]; exact HQ.out.1
    have HQ2 : Hid (cy = 2 ^ (k' + 1) * r) := by rw [← hkk]; exact HQ.out.2
    have kq : (k : Int) - 1 = (k' : Int) := by omega
    have kb : (1 : Int) ≤ (k : Int) := by omega
    have kc : (k : Int) ≤ 16 := by omega
    have HBX : Hid (InBox (lx, ly, ux, uy)) := ⟨b1, b2, b3, b4, b5, b6, b7, b8⟩
    clear hkk
    have HP2 := Lib.hid hP2
    clear hP2 hHn
    go_upto_region 5 with fail
    go_cut [84] (fun s84 wx => s84 = .bool false ∧ wb = wx)
    case first =>
      by_cases g1 : lx ≤ (cx : Int)
      · by_cases g2 : (cx : Int) + (P : Int) - 1 ≤ ux
        · by_cases g3 : ly ≤ (cy : Int)
          · by_cases g4 : (cy : Int) + (P : Int) - 1 ≤ uy
            · exact absurd ⟨g1, g2, g3, g4⟩ hin
            · go_wp2_with fail
              go_meet
              exact ⟨rfl, rfl⟩
          · go_wp2_with fail
            go_meet
            exact ⟨rfl, rfl⟩
        · go_wp2_with fail
          go_meet
          exact ⟨rfl, rfl⟩
      · go_wp2_with fail
        go_meet
        exact ⟨rfl, rfl⟩
    case rest =>
      obtain ⟨rfl, hwb⟩ := hcut
      subst hwb
      clear h1 h2 h3 h4 hin d0 d1
      obtain ⟨q1, q2, q3, q4⟩ := half_facts HP2.out (by omega)
      clear q3 q4
      go_upto_region 14 with fail
      rw [q2]
      clear q1 q2
      have hn0 : (0 : Int) ≤ (Hn : Int) := by omega
      have hni : (Hn : Int) ≤ 65536 := by have := HP2.out; omega
      have hxh : (cx : Int) + (Hn : Int) ≤ 65536 := by have := HP2.out; omega
      have hyh : (cy : Int) + (Hn : Int) ≤ 65536 := by have := HP2.out; omega
      have J0 : Hid (FiI w cx cy lx ly ux uy base (.slice Av n cv) (.slice Av n cv) L wb) := ⟨B0.out, B1.out, B2.out, by rw [← HN.out]; exact own_step HOW.out HBE.out, grown_below HBE.out _, by rw [HSZ.out]; exact Nat.le_refl _, HVL.out, .inl rfl⟩
      clear e0 e1 l0 l1 u0 u1 B0 B1 B2 B3 HBE HSZ
      go_wp2_with fail
      go_loopw [0, 123] (fun v0 v123 wr => ∃ i : Nat, i ≤ 4 ∧ v123 = .int .i64 i ∧ FiI w cx cy lx ly ux uy base (.slice Av n cv) v0 (partR k' L cx cy (lx, ly, ux, uy) i) wr) (fun _ v123 _ => 4 - (intOf v123).toNat)
      case atStart => exact ⟨0, by omega, rfl, J0.out⟩
      case round =>
        obtain ⟨i, hi, rfl, hfi⟩ := hrel
        clear J0
        have e0 := hfi.b0.cell 0
        have e1 := hfi.b0.cell 1
        have l0 := hfi.b1.cell 0
        have l1 := hfi.b1.cell 1
        have u0 := hfi.b2.cell 0
        have u1 := hfi.b2.cell 1
        simp at e0 e1 l0 l1 u0 u1
        have s1 : w.heap.size + 1 < wr.heap.size := by have := hfi.sz; omega
        have s2 : w.heap.size + 2 < wr.heap.size := by have := hfi.sz; omega
        have s3 : w.heap.size + 1 + 1 < wr.heap.size := by have := hfi.sz; omega
        have s4 : w.heap.size < wr.heap.size := by have := hfi.sz; omega
        have h5 : i = 0 ∨ i = 1 ∨ i = 2 ∨ i = 3 ∨ i = 4 := by omega
        rcases h5 with rfl | rfl | rfl | rfl | rfl
        · obtain ⟨p1, p2, p3⟩ := part_facts (a := 0) (b := 0) HKK.out HQ1.out HQ2.out (by decide) (by decide)
          have hpr := partR_ok (bx := (lx, ly, ux, uy)) HKK.out HQ1.out HQ2.out HL.out HAL.out 0 (by decide)
          have eX : cx + 2 ^ k' * 0 = cx := by rw [← HHN.out]; simp
          have eY : cy + 2 ^ k' * 0 = cy := by rw [← HHN.out]; simp
          rw [show (0 + 2 * 0 : Nat) = 0 from rfl] at p3
          rw [eX] at p1 p3
          rw [eY] at p2 p3
          have hpe : partR k' L cx cy (lx, ly, ux, uy) 1 = fillR k' (partR k' L cx cy (lx, ly, ux, uy) 0) (cx) (cy) (lx, ly, ux, uy) := by
            exact (partR_succ k' L cx cy (lx, ly, ux, uy) 0).trans (by rw [show (0 % 2 : Nat) = 0 from rfl, show (0 / 2 : Nat) = 0 from rfl, eX, eY])
          have hca : A ≤ ((cellN 16 (cx) (cy) : Nat) : Int) := by rw [p3]; exact Int.le_trans HAL.out (Int.ofNat_le.2 (Nat.le_add_right _ _))
          have hcx : cx + 2 ^ k' ≤ 65536 := by have := HP2.out; rw [← HHN.out]; omega
          have hcy : cy + 2 ^ k' ≤ 65536 := by have := HP2.out; rw [← HHN.out]; omega
          have hc := (HIH.out k' HK2.out) (cx) (cy) (2 * q + 0) (2 * r + 0) (partR k' L cx cy (lx, ly, ux, uy) 0) _ A (lx, ly, ux, uy) base (wr.alloc (Obj.cells #[.int .i64 (cx : Int), .int .i64 (cy : Int)] 27))
            p1 p2 hcx hcy hA (by rw [p3]; exact hpr) hca HBX.out (own_step hfi.own ((Below.refl _ _).alloc (Nat.le_refl _) _)) (by have := HBA.out; have := hfi.gb.size; simp; omega)
          rw [← hpe] at hc
          have HC := Lib.hid hc
          have HFI := Lib.hid hfi
          clear hc p1 p2 p3 hpr hpe hfi eX eY hca hcx hcy
          go_wp2_with fail
          refine HC.out.mono ?_
          rintro e w' hf
          obtain ⟨v', rfl, hn'⟩ := HFI.out.next _ hf
          have HN' := Lib.hid hn'
          clear hf hn' HFI HC e0 e1 l0 l1 u0 u1 s1 s2 s3 s4
          go_wp2_with fail
          go_roundw
          case rel => exact ⟨1, by omega, by go_num, HN'.out⟩
          case measure => simp [intOf]
        · obtain ⟨p1, p2, p3⟩ := part_facts (a := 1) (b := 0) HKK.out HQ1.out HQ2.out (by decide) (by decide)
          have hpr := partR_ok (bx := (lx, ly, ux, uy)) HKK.out HQ1.out HQ2.out HL.out HAL.out 1 (by decide)
          have eX : cx + 2 ^ k' * 1 = cx + Hn := by rw [← HHN.out]; simp
          have eY : cy + 2 ^ k' * 0 = cy := by rw [← HHN.out]; simp
          rw [show (1 + 2 * 0 : Nat) = 1 from rfl] at p3
          rw [eX] at p1 p3
          rw [eY] at p2 p3
          have hpe : partR k' L cx cy (lx, ly, ux, uy) 2 = fillR k' (partR k' L cx cy (lx, ly, ux, uy) 1) (cx + Hn) (cy) (lx, ly, ux, uy) := by
            exact (partR_succ k' L cx cy (lx, ly, ux, uy) 1).trans (by rw [show (1 % 2 : Nat) = 1 from rfl, show (1 / 2 : Nat) = 0 from rfl, eX, eY])
          have hca : A ≤ ((cellN 16 (cx + Hn) (cy) : Nat) : Int) := by rw [p3]; exact Int.le_trans HAL.out (Int.ofNat_le.2 (Nat.le_add_right _ _))
          have hcx : cx + Hn + 2 ^ k' ≤ 65536 := by have := HP2.out; rw [← HHN.out]; omega
          have hcy : cy + 2 ^ k' ≤ 65536 := by have := HP2.out; rw [← HHN.out]; omega
          have hc := (HIH.out k' HK2.out) (cx + Hn) (cy) (2 * q + 1) (2 * r + 0) (partR k' L cx cy (lx, ly, ux, uy) 1) _ A (lx, ly, ux, uy) base (wr.alloc (Obj.cells #[.int .i64 ((cx : Int) + (Hn : Int)), .int .i64 (cy : Int)] 27))
            p1 p2 hcx hcy hA (by rw [p3]; exact hpr) hca HBX.out (own_step hfi.own ((Below.refl _ _).alloc (Nat.le_refl _) _)) (by have := HBA.out; have := hfi.gb.size; simp; omega)
          rw [← hpe] at hc
          simp only [Int.natCast_add] at hc
          have HC := Lib.hid hc
          have HFI := Lib.hid hfi
          clear hc p1 p2 p3 hpr hpe hfi eX eY hca hcx hcy
          go_wp2_with fail
          refine HC.out.mono ?_
          rintro e w' hf
          obtain ⟨v', rfl, hn'⟩ := HFI.out.next _ hf
          have HN' := Lib.hid hn'
          clear hf hn' HFI HC e0 e1 l0 l1 u0 u1 s1 s2 s3 s4
          go_wp2_with fail
          go_roundw
          case rel => exact ⟨2, by omega, by go_num, HN'.out⟩
          case measure => simp [intOf]
        · obtain ⟨p1, p2, p3⟩ := part_facts (a := 0) (b := 1) HKK.out HQ1.out HQ2.out (by decide) (by decide)
          have hpr := partR_ok (bx := (lx, ly, ux, uy)) HKK.out HQ1.out HQ2.out HL.out HAL.out 2 (by decide)
          have eX : cx + 2 ^ k' * 0 = cx := by rw [← HHN.out]; simp
          have eY : cy + 2 ^ k' * 1 = cy + Hn := by rw [← HHN.out]; simp
          rw [show (0 + 2 * 1 : Nat) = 2 from rfl] at p3
          rw [eX] at p1 p3
          rw [eY] at p2 p3
          have hpe : partR k' L cx cy (lx, ly, ux, uy) 3 = fillR k' (partR k' L cx cy (lx, ly, ux, uy) 2) (cx) (cy + Hn) (lx, ly, ux, uy) := by
            exact (partR_succ k' L cx cy (lx, ly, ux, uy) 2).trans (by rw [show (2 % 2 : Nat) = 0 from rfl, show (2 / 2 : Nat) = 1 from rfl, eX, eY])
          have hca : A ≤ ((cellN 16 (cx) (cy + Hn) : Nat) : Int) := by rw [p3]; exact Int.le_trans HAL.out (Int.ofNat_le.2 (Nat.le_add_right _ _))
          have hcx : cx + 2 ^ k' ≤ 65536 := by have := HP2.out; rw [← HHN.out]; omega
          have hcy : cy + Hn + 2 ^ k' ≤ 65536 := by have := HP2.out; rw [← HHN.out]; omega
          have hc := (HIH.out k' HK2.out) (cx) (cy + Hn) (2 * q + 0) (2 * r + 1) (partR k' L cx cy (lx, ly, ux, uy) 2) _ A (lx, ly, ux, uy) base (wr.alloc (Obj.cells #[.int .i64 (cx : Int), .int .i64 ((cy : Int) + (Hn : Int))] 27))
            p1 p2 hcx hcy hA (by rw [p3]; exact hpr) hca HBX.out (own_step hfi.own ((Below.refl _ _).alloc (Nat.le_refl _) _)) (by have := HBA.out; have := hfi.gb.size; simp; omega)
          rw [← hpe] at hc
          simp only [Int.natCast_add] at hc
          have HC := Lib.hid hc
          have HFI := Lib.hid hfi
          clear hc p1 p2 p3 hpr hpe hfi eX eY hca hcx hcy
          go_wp2_with fail
          refine HC.out.mono ?_
          rintro e w' hf
          obtain ⟨v', rfl, hn'⟩ := HFI.out.next _ hf
          have HN' := Lib.hid hn'
          clear hf hn' HFI HC e0 e1 l0 l1 u0 u1 s1 s2 s3 s4
          go_wp2_with fail
          go_roundw
          case rel => exact ⟨3, by omega, by go_num, HN'.out⟩
          case measure => simp [intOf]
        · obtain ⟨p1, p2, p3⟩ := part_facts (a := 1) (b := 1) HKK.out HQ1.out HQ2.out (by decide) (by decide)
          have hpr := partR_ok (bx := (lx, ly, ux, uy)) HKK.out HQ1.out HQ2.out HL.out HAL.out 3 (by decide)
          have eX : cx + 2 ^ k' * 1 = cx + Hn := by rw [← HHN.out]; simp
          have eY : cy + 2 ^ k' * 1 = cy + Hn := by rw [← HHN.out]; simp
          rw [show (1 + 2 * 1 : Nat) = 3 from rfl] at p3
          rw [eX] at p1 p3
          rw [eY] at p2 p3
          have hpe : partR k' L cx cy (lx, ly, ux, uy) 4 = fillR k' (partR k' L cx cy (lx, ly, ux, uy) 3) (cx + Hn) (cy + Hn) (lx, ly, ux, uy) := by
            exact (partR_succ k' L cx cy (lx, ly, ux, uy) 3).trans (by rw [show (3 % 2 : Nat) = 1 from rfl, show (3 / 2 : Nat) = 1 from rfl, eX, eY])
          have hca : A ≤ ((cellN 16 (cx + Hn) (cy + Hn) : Nat) : Int) := by rw [p3]; exact Int.le_trans HAL.out (Int.ofNat_le.2 (Nat.le_add_right _ _))
          have hcx : cx + Hn + 2 ^ k' ≤ 65536 := by have := HP2.out; rw [← HHN.out]; omega
          have hcy : cy + Hn + 2 ^ k' ≤ 65536 := by have := HP2.out; rw [← HHN.out]; omega
          have hc := (HIH.out k' HK2.out) (cx + Hn) (cy + Hn) (2 * q + 1) (2 * r + 1) (partR k' L cx cy (lx, ly, ux, uy) 3) _ A (lx, ly, ux, uy) base (wr.alloc (Obj.cells #[.int .i64 ((cx : Int) + (Hn : Int)), .int .i64 ((cy : Int) + (Hn : Int))] 27))
            p1 p2 hcx hcy hA (by rw [p3]; exact hpr) hca HBX.out (own_step hfi.own ((Below.refl _ _).alloc (Nat.le_refl _) _)) (by have := HBA.out; have := hfi.gb.size; simp; omega)
          rw [← hpe] at hc
          simp only [Int.natCast_add] at hc
          have HC := Lib.hid hc
          have HFI := Lib.hid hfi
          clear hc p1 p2 p3 hpr hpe hfi eX eY hca hcx hcy
          go_wp2_with fail
          refine HC.out.mono ?_
          rintro e w' hf
          obtain ⟨v', rfl, hn'⟩ := HFI.out.next _ hf
          have HN' := Lib.hid hn'
          clear hf hn' HFI HC e0 e1 l0 l1 u0 u1 s1 s2 s3 s4
          go_wp2_with fail
          go_roundw
          case rel => exact ⟨4, by omega, by go_num, HN'.out⟩
          case measure => simp [intOf]
        · have HFI := Lib.hid hfi
          clear hfi e0 e1 l0 l1 u0 u1 s1 s2 s3 s4
          go_wp2_with fail
          go_ret
          exact FillOk.eq HFR.out ⟨_, rfl, HFI.out.own, HFI.out.gb, HFI.out.blk.imp id fun ⟨g, h, h'⟩ => ⟨g, h, by omega⟩⟩

theorem fill_any : ∀ k, k ≤ 16 → FillAt k
  | 0, h => fill_step 0 h fun k' e => by omega
  | k + 1, h => fill_step (k + 1) h fun k' e => by
    obtain rfl : k = k' := by omega
    exact fill_any k (by omega)

end Go.Proofs.Ytefolbfopjfbcaa
