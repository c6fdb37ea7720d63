/- The contract of geo.bounds. -/
import Derived.Test.YtefolbfopjfbcaaGeoVal
namespace Go.Proofs.Ytefolbfopjfbcaa
open Go.RowKit

abbrev Box := Int × Int × Int × Int
def bbStep (b : Box) (p : Int × Int) : Box := (min b.1 p.1, min b.2.1 p.2, max b.2.2.1 p.1, max b.2.2.2 p.2)
def bbTo (x0 y0 : Int) (ps : List (Int × Int)) : Box := ps.foldl bbStep (x0, y0, x0, y0)
def InBox (b : Box) : Prop := 0 ≤ b.1 ∧ b.1 < 65536 ∧ 0 ≤ b.2.1 ∧ b.2.1 < 65536 ∧ 0 ≤ b.2.2.1 ∧ b.2.2.1 < 65536 ∧ 0 ≤ b.2.2.2 ∧ b.2.2.2 < 65536
theorem bbStep_in {b : Box} {p : Int × Int} (h : InBox b) (hp : pointB p.1 p.2 = true) : InBox (bbStep b p) := by
  have := pointB_true hp
  simp only [InBox, bbStep] at *
  omega
theorem bbTo_in (x0 y0 : Int) (ps : List (Int × Int)) (h0 : pointB x0 y0 = true) (h : ∀ p ∈ ps, pointB p.1 p.2 = true) : InBox (bbTo x0 y0 ps) := by
  have key : ∀ (l : List (Int × Int)) (b : Box), InBox b → (∀ p ∈ l, pointB p.1 p.2 = true) → InBox (l.foldl bbStep b) := by
    intro l
    induction l with
    | nil => intro b hb _; exact hb
    | cons p l ih => intro b hb hl; exact ih _ (bbStep_in hb (hl p (by simp))) (fun q hq => hl q (by simp [hq]))
  have := pointB_true h0
  exact key ps _ (by simp only [InBox]; omega) h
theorem bbTo_snoc (x0 y0 : Int) (ps : List (Int × Int)) (i : Nat) (p : Int × Int) (h : ps[i]? = some p) : bbTo x0 y0 (ps.take (i + 1)) = bbStep (bbTo x0 y0 (ps.take i)) p := by
  unfold bbTo
  rw [List.take_add_one, h]
  simp

theorem imin (a b : Int) : (if a < b then a else b) = min b a := by omega
theorem imax (a b : Int) : (if a < b then b else a) = max a b := by omega

theorem ilo (a r : Int) : (if r < a then a - r else 0) = max 0 (a - r) := by omega
theorem ihi (a r : Int) : (if a + r < 65535 then a + r else 65535) = min 65535 (a + r) := by omega

def BndInv (w : World) (sh : Array Value) (g1 g2 : Nat) (wr : World) (b : Box) : Prop :=
  Blk wr w.heap.size 35 sh ∧ Blk wr (w.heap.size + 1) 27 #[.int .i64 0, .int .i64 0] ∧ Blk wr (w.heap.size + 2) 27 #[.int .i64 0, .int .i64 0] ∧
  Blk wr g1 27 #[.int .i64 b.1, .int .i64 b.2.1] ∧ Blk wr g2 27 #[.int .i64 b.2.2.1, .int .i64 b.2.2.2] ∧ Below w.heap.size w wr

/-- the corners of the bounding box -/
def cornersOf (b : Box) (r : Int) : Box := (max 0 (b.1 - r), max 0 (b.2.1 - r), min 65535 (b.2.2.1 + r), min 65535 (b.2.2.2 + r))

theorem load_pt (g : Nat) (x y : Int) (W : World) (q0 : W.cell? ⟨g, 0, none⟩ = some (.int .i64 x)) (q1 : W.cell? ⟨g, 1, none⟩ = some (.int .i64 y)) :
    (loadVar 27 ⟨g, 0, none⟩).run Try.prog W = .ok (pt x y) W := by
  simp [go_sem, q0, q1]
theorem results_pts {fn : Func} {p u : Tmp} (h : fn.results = #[.cell p 27, .cell u 27]) (tmps : Array Value) (g1 g2 : Nat) (h1 : tmps[p]?.getD undef = .pointer (some ⟨g1, 0, none⟩)) (h2 : tmps[u]?.getD undef = .pointer (some ⟨g2, 0, none⟩))
    (W : World) (x1 y1 x2 y2 : Int) (q0 : W.cell? ⟨g1, 0, none⟩ = some (.int .i64 x1)) (q1 : W.cell? ⟨g1, 1, none⟩ = some (.int .i64 y1)) (q2 : W.cell? ⟨g2, 0, none⟩ = some (.int .i64 x2)) (q3 : W.cell? ⟨g2, 1, none⟩ = some (.int .i64 y2)) :
    (results fn tmps).run Try.prog W = .ok (.tuple #[pt x1 y1, pt x2 y2]) W := by
  simp [results, h, h1, h2, asAddr, load_pt g1 x1 y1 W q0 q1, load_pt g2 x2 y2 W q2 q3]

set_option maxHeartbeats 2000000 in
theorem bounds_any (k : Int) (A : Option Addr) (n c : Nat) (r : Int) (x0 y0 : Int) (ps : List (Int × Int)) (w : World) (h : RdPts w A n ps) (hr0 : 0 ≤ r) (hr1 : r < 65536)
    (h0 : ps[0]? = some (x0, y0)) (hps : ∀ p ∈ ps, pointB p.1 p.2 = true) :
    Calls Try.prog 32 #[shp k A n c r] w fun e w' => e = .returned (.tuple #[pt (cornersOf (bbTo x0 y0 ps) r).1 (cornersOf (bbTo x0 y0 ps) r).2.1, pt (cornersOf (bbTo x0 y0 ps) r).2.2.1 (cornersOf (bbTo x0 y0 ps) r).2.2.2]) ∧ Below w.heap.size w w' := by
  obtain ⟨hl, hn, hr⟩ := h
  have hn0 : 0 < n := by have := (List.getElem?_eq_some_iff.1 h0).1; omega
  obtain ⟨b, off, rfl, hb, hc⟩ := hr hn0
  obtain ⟨c0, c1⟩ := hc 0 x0 y0 h0
  simp at c0 c1
  have HC := Lib.hid hc
  have H0 := Lib.hid h0
  have HPS := Lib.hid hps
  have HL := Lib.hid hl
  clear hr hc h0 hps hl
  have hbk : b < w.heap.size + 1 ∧ b < w.heap.size + 2 ∧ b < w.heap.size + 3 ∧ b < w.heap.size + 4 ∧ b < w.heap.size + 5 := by omega
  unfold maxLen at hn
  go_enter Try.func32, Try.ntmps32
  go_upto_region 1 with fail
  go_cut [4, 5] (fun s4 s5 wx => ∃ g1 g2 : Nat, s4 = .pointer (some ⟨g1, 0, none⟩) ∧ s5 = .pointer (some ⟨g2, 0, none⟩) ∧ g1 ≠ g2 ∧ w.heap.size + 3 ≤ g1 ∧ w.heap.size + 3 ≤ g2 ∧
    BndInv w #[Value.int IntKind.i64 k, Value.slice (some ⟨b, off, none⟩) n c, Value.int IntKind.i64 r] g1 g2 wx (x0, y0, x0, y0))
  case first =>
    go_region
    all_goals (go_wp2_with fail; go_meet)
    all_goals first
      | exact ⟨w.heap.size + 3, w.heap.size + 4, rfl, rfl, by omega, by omega, by omega, (((((Blk.new_at rfl).alloc _).alloc _).alloc _).alloc _), (((((Blk.new_at (by simp)).alloc _).alloc _).alloc _)), (((Blk.new_at (by simp)).alloc _).alloc _), (Blk.new_at (by simp)).alloc _, Blk.new_at (by simp), ((((((Below.refl _ _).alloc (by simp) _).alloc (by simp) _).alloc (by simp; omega) _).alloc (by simp; omega) _).alloc (by simp; omega) _).drew⟩
      | exact ⟨w.heap.size + 4, w.heap.size + 3, rfl, rfl, by omega, by omega, by omega, (((((Blk.new_at rfl).alloc _).alloc _).alloc _).alloc _), (((((Blk.new_at (by simp)).alloc _).alloc _).alloc _)), (((Blk.new_at (by simp)).alloc _).alloc _), Blk.new_at (by simp), (Blk.new_at (by simp)).alloc _, ((((((Below.refl _ _).alloc (by simp) _).alloc (by simp) _).alloc (by simp; omega) _).alloc (by simp; omega) _).alloc (by simp; omega) _).drew⟩
  case rest =>
    obtain ⟨g1, g2, rfl, rfl, hne, hg1, hg2, HI⟩ := hcut
    clear hbk c0 c1
    have e0 := HI.1.cell 0
    have e1 := HI.1.cell 1
    have e2 := HI.1.cell 2
    simp at e0 e1 e2
    have HJ := Lib.hid HI
    clear HI
    go_wp2_with fail
    go_loopw [7, 19] (fun v7 v19 wr => ∃ i : Nat, i ≤ n ∧ v19 = .int .i64 i ∧ BndInv w #[Value.int IntKind.i64 k, Value.slice (some ⟨b, off, none⟩) n c, Value.int IntKind.i64 r] g1 g2 wr (bbTo x0 y0 (ps.take i))) (fun _ v19 _ => n - (intOf v19).toNat)
    case atStart => exact ⟨0, Nat.zero_le _, rfl, HJ.out⟩
    case round =>
      obtain ⟨i, hi, rfl, HI⟩ := hrel
      clear e0 e1 e2 HJ
      obtain ⟨i1, i2, i3, i4, i5, i6⟩ := HI
      by_cases hlt : i < n
      · obtain ⟨⟨x, y⟩, hxy⟩ : ∃ p, ps[i]? = some p := ⟨_, List.getElem?_eq_getElem (by have := HL.out; omega)⟩
        obtain ⟨c0, c1⟩ := HC.out i x y hxy
        have d0 := (i6.cell (p := ⟨b, off + i * 2, none⟩) hb).trans c0
        have d1 := (i6.cell (p := ⟨b, off + i * 2 + 1, none⟩) hb).trans c1
        have HS := Lib.hid (bbTo_snoc x0 y0 ps i _ hxy)
        clear c0 c1 hxy
        generalize bbTo x0 y0 (ps.take i) = B at *
        obtain ⟨lx, ly, ux, uy⟩ := B
        have e0 := i1.cell 0
        have e1 := i1.cell 1
        have e2 := i1.cell 2
        have f0 := i4.cell 0
        have f1 := i4.cell 1
        have f2 := i5.cell 0
        have f3 := i5.cell 1
        have z0 := i4.frozen 0
        have z1 := i4.frozen 1
        have z2 := i5.frozen 0
        have z3 := i5.frozen 1
        simp at e0 e1 e2 f0 f1 f2 f3
        have l4 := i4.lt
        have l5 := i5.lt
        have J1 := Lib.hid i1
        have J2 := Lib.hid i2
        have J3 := Lib.hid i3
        have J4 := Lib.hid i4
        have J5 := Lib.hid i5
        have J6 := Lib.hid i6
        clear i1 i2 i3 i4 i5 i6
        go_wp2_with fail
        go_roundw
        case rel =>
          refine ⟨i + 1, by omega, by go_num, ?_⟩
          rw [HS.out]
          simp only [bbStep]
          rw [imin x lx, imin y ly, imax ux x, imax uy y]
          have n1 : w.heap.size ≠ g1 := by omega
          have n2 : w.heap.size ≠ g2 := by omega
          exact ⟨((((J1.out.far n1 _).far n1 _).far n2 _).far n2 _).alloc _, ((((J2.out.far (by show w.heap.size + 1 ≠ g1; omega) _).far (by show w.heap.size + 1 ≠ g1; omega) _).far (by show w.heap.size + 1 ≠ g2; omega) _).far (by show w.heap.size + 1 ≠ g2; omega) _).alloc _,
            ((((J3.out.far (by show w.heap.size + 2 ≠ g1; omega) _).far (by show w.heap.size + 2 ≠ g1; omega) _).far (by show w.heap.size + 2 ≠ g2; omega) _).far (by show w.heap.size + 2 ≠ g2; omega) _).alloc _,
            ((((J4.out.set_ 0 _).set_ 1 _).far hne _).far hne _).alloc _, ((((J5.out.far hne.symm _).far hne.symm _).set_ 0 _).set_ 1 _).alloc _,
            ((((J6.out.setCell (by show w.heap.size ≤ g1; omega) _).setCell (by show w.heap.size ≤ g1; omega) _).setCell (by show w.heap.size ≤ g2; omega) _).setCell (by show w.heap.size ≤ g2; omega) _).alloc (by have := J6.out.size; simp [World.setCell]; omega) _⟩
        case measure => simp [intOf]; omega
      · obtain rfl : i = n := by omega
        rw [List.take_of_length_le (by have := HL.out; omega)] at i4 i5
        have hin := bbTo_in x0 y0 ps (HPS.out _ (List.mem_of_getElem? H0.out)) HPS.out
        obtain ⟨lx, ly, ux, uy, hB⟩ : ∃ lx ly ux uy, bbTo x0 y0 ps = (lx, ly, ux, uy) := ⟨_, _, _, _, rfl⟩
        rw [hB] at i4 i5 hin
        simp only [InBox] at hin
        have e0 := i1.cell 0
        have e1 := i1.cell 1
        have e2 := i1.cell 2
        have f0 := i4.cell 0
        have f1 := i4.cell 1
        have f2 := i5.cell 0
        have f3 := i5.cell 1
        have z0 := i4.frozen 0
        have z1 := i4.frozen 1
        have z2 := i5.frozen 0
        have z3 := i5.frozen 1
        have f4 := i2.cell 0
        have f5 := i2.cell 1
        have f6 := i3.cell 0
        have f7 := i3.cell 1
        have z4 := i2.frozen 0
        have z5 := i2.frozen 1
        have z6 := i3.frozen 0
        have z7 := i3.frozen 1
        simp at e0 e1 e2 f0 f1 f2 f3 f4 f5 f6 f7
        have J2 := Lib.hid i2
        have J3 := Lib.hid i3
        have J6 := Lib.hid i6
        clear i1 i2 i3 i4 i5 i6
        go_upto_region 10 with fail
        rw [ilo lx r, ilo ly r, ihi ux r, ihi uy r]
        have HB : Hid (bbTo x0 y0 ps = (lx, ly, ux, uy)) := hB
        clear hB
        generalize e1 : max 0 (lx - r) = v1
        generalize e2 : max 0 (ly - r) = v2
        generalize e3 : min 65535 (ux + r) = v3
        generalize e4 : min 65535 (uy + r) = v4
        have E1 := Lib.hid e1
        have E2 := Lib.hid e2
        have E3 := Lib.hid e3
        have E4 := Lib.hid e4
        clear e1 e2 e3 e4
        go_region
        go_wp2_with fail
        have n1 : w.heap.size + 1 ≠ g1 := by omega
        have n2 : w.heap.size + 1 ≠ g2 := by omega
        have n3 : w.heap.size + 2 ≠ g1 := by omega
        have n4 : w.heap.size + 2 ≠ g2 := by omega
        have n5 : w.heap.size + 1 ≠ w.heap.size + 1 + 1 := by omega
        have n6 : w.heap.size + 2 ≠ w.heap.size + 1 := by omega
        have r1 := (((((((((J2.out.far (p := ⟨g1, 0, none⟩) n1 (.int .i64 v1)).far (p := ⟨g1, 1, none⟩) n1 (.int .i64 v2)).far (p := ⟨g2, 0, none⟩) n2 (.int .i64 v3)).far (p := ⟨g2, 1, none⟩) n2 (.int .i64 v4)).set_ 0 (.int .i64 v1)).set_ 1 (.int .i64 v2)).far (p := ⟨w.heap.size + 1 + 1, 0, none⟩) n5 (.int .i64 v3)).far (p := ⟨w.heap.size + 1 + 1, 1, none⟩) n5 (.int .i64 v4))).drew
        have r2 := (((((((((J3.out.far (p := ⟨g1, 0, none⟩) n3 (.int .i64 v1)).far (p := ⟨g1, 1, none⟩) n3 (.int .i64 v2)).far (p := ⟨g2, 0, none⟩) n4 (.int .i64 v3)).far (p := ⟨g2, 1, none⟩) n4 (.int .i64 v4)).far (p := ⟨w.heap.size + 1, 0, none⟩) n6 (.int .i64 v1)).far (p := ⟨w.heap.size + 1, 1, none⟩) n6 (.int .i64 v2)).set_ 0 (.int .i64 v3)).set_ 1 (.int .i64 v4))).drew
        have q0 := r1.cell 0
        have q1 := r1.cell 1
        have q2 := r2.cell 0
        have q3 := r2.cell 1
        simp only [List.setIfInBounds_toArray, List.set, List.getElem?_toArray, List.getElem?_cons_zero, List.getElem?_cons_succ] at q0 q1 q2 q3
        have J := (((((((((J6.out.setCell (p := ⟨g1, 0, none⟩) (by show _ ≤ g1; omega) (.int .i64 v1)).setCell (p := ⟨g1, 1, none⟩) (by show _ ≤ g1; omega) (.int .i64 v2)).setCell (p := ⟨g2, 0, none⟩) (by show _ ≤ g2; omega) (.int .i64 v3)).setCell (p := ⟨g2, 1, none⟩) (by show _ ≤ g2; omega) (.int .i64 v4)).setCell (p := ⟨w.heap.size + 1, 0, none⟩) (by show _ ≤ w.heap.size + 1; omega) (.int .i64 v1)).setCell (p := ⟨w.heap.size + 1, 1, none⟩) (by show _ ≤ w.heap.size + 1; omega) (.int .i64 v2)).setCell (p := ⟨w.heap.size + 1 + 1, 0, none⟩) (by show _ ≤ w.heap.size + 1 + 1; omega) (.int .i64 v3)).setCell (p := ⟨w.heap.size + 1 + 1, 1, none⟩) (by show _ ≤ w.heap.size + 1 + 1; omega) (.int .i64 v4))).drew
        refine bodyPost_ret (v := .tuple #[pt v1 v2, pt v3 v4]) (results_pts rfl _ _ _ rfl rfl _ _ _ _ _ q0 q1 q2 q3) rfl ⟨?_, J⟩
        rw [HB.out, ← E1.out, ← E2.out, ← E3.out, ← E4.out]
        rfl

end Go.Proofs.Ytefolbfopjfbcaa
