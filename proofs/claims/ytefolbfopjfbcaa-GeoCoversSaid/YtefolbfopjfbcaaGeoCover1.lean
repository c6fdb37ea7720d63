/- geo.fill, geo.reduce and geo.Cover at a box of one point. -/
import Derived.Test.YtefolbfopjfbcaaGeoBounds
import Derived.Test.YtefolbfopjfbcaaGeoCell
import Derived.Test.YtefolbfopjfbcaaKit2
namespace Go.Proofs.Ytefolbfopjfbcaa
open Go.RowKit

theorem info_range : (Try.prog.info? 46).map (fun i => (i.zero, i.size, i.bytes)) = some (some (.agg #[.int .i64 0, .int .i64 0]), 2, 16) := by kernel_rfl

/-- one range of one cell, in new memory -/
def One2 (q : Int) (w : World) (e : Ending) (w' : World) : Prop :=
  ∃ g cap, e = .returned (.slice (some ⟨g, 0, none⟩) 1 cap) ∧ w.heap.size ≤ g ∧ w'.cell? ⟨g, 0, none⟩ = some (.int .i64 q) ∧ w'.cell? ⟨g, 1, none⟩ = some (.int .i64 q) ∧ Below w.heap.size w w'
theorem One2.of_own {q : Int} {w w' : World} {v : Value} {t : TypeId} (h : w'.ownsRow w.heap.size t 2 v 1 [.int .i64 q, .int .i64 q]) (hb : Below w.heap.size w w') : One2 q w (.returned v) w' := by
  obtain ⟨g, cap, rfl, hg⟩ : ∃ g cap, v = .slice (some ⟨g, 0, none⟩) 1 cap ∧ w.heap.size ≤ g := by
    rcases h.2 with ⟨_, h'⟩ | ⟨g, cap, cur, hv, hg, _⟩
    · omega
    · exact ⟨g, cap, hv, hg⟩
  have h0 := World.ownsRow.cells h (g := g) rfl 0 _ rfl
  have h1 := World.ownsRow.cells h (g := g) rfl 1 _ rfl
  rw [addr_add] at h0 h1
  exact ⟨g, cap, rfl, hg, h0, h1, hb⟩

set_option maxHeartbeats 2000000 in
theorem fill_one (x y : Int) (hp : pointB x y = true) (w : World) :
    Calls Try.prog 40 #[.slice none 0 0, pt x y, .int .i64 0, pt x y, pt x y] w fun e w' => One2 (cellI x y) w e w' := by
  obtain ⟨a1, a2, a3, a4⟩ := pointB_true hp
  obtain ⟨i0, hi0, hz0, hz1, hz2⟩ := info_parts info_range
  have hq : 0 ≤ cellI x y ∧ cellI x y < 4294967296 := by
    have := cellN_le x.toNat y.toNat 16 (Nat.le_refl _)
    simp only [cellI, hp, if_true]
    omega
  go_enter Try.func40, Try.ntmps40
  go_wp2_with fail
  refine (cell_any _ _ _).mono ?_
  rintro e w1 ⟨rfl, hb⟩
  have N4 : Below w.heap.size w w1 := (((((Below.refl _ _).alloc (by simp) _).alloc (by simp) _).alloc (by simp; omega) _).alloc (by simp; omega) _).trans (hb.mono (by simp; omega))
  have J4 := Lib.hid N4
  have hz : w.heap.size + 4 ≤ w1.heap.size := by have := hb.size; simp at this; omega
  clear hb N4
  go_wp2_with (at_builtin; refine wpList_append_own _ rfl _ _ 42 rfl w.heap.size 46 i0 (.agg #[.int .i64 0, .int .i64 0]) 2 16 Try.underlying42 hi0 hz0 hz1 hz2 rfl (by decide) (.slice none 0 0) 0 [] rfl ⟨by simp, .inl ⟨rfl, rfl⟩⟩ ⟨w1.heap.size, 0, none⟩ 1 1 [.int .i64 (cellI x y), .int .i64 (cellI x y)] rfl rfl ?c1 ?c2 ?c3 ?c4 ?c5 ?_)
  case c1 => exact news_at _ _ _
  case c2 => simp [Value.oneCell']
  case c3 => simp [maxLen]
  case c4 => simp
  case c5 => simp; omega
  intro v2 w2 hown hg _
  go_wp2_with fail
  go_ret
  refine One2.of_own (v := v2) (by simpa using hown) ?_
  exact (J4.out.alloc J4.out.size _).grown hg (by have := J4.out.size; simp; omega) (by simp [Value.ownBlock])

set_option maxHeartbeats 400000 in
theorem reduce_few (A : Option Addr) (n c : Nat) (most : Int) (w : World) (h : (n : Int) ≤ most) :
    Calls Try.prog 39 #[.slice A n c, .int .i64 most] w fun e w' => e = .returned (.slice A n c) ∧ Below w.heap.size w w' := by
  go_enter Try.func39, Try.ntmps39
  go_wp2_with fail
  go_ret
  exact ⟨rfl, (Below.refl _ _).alloc (Nat.le_refl _) _⟩

set_option maxHeartbeats 2000000 in
theorem cover_one (A : Option Addr) (c : Nat) (x y : Int) (hp : pointB x y = true) (w : World) (h : RdPts w A 2 [(x, y), (x, y)]) :
    Calls Try.prog 21 #[shp 1 A 2 c 0, .int .i64 1] w fun e w' => One2 (cellI x y) w e w' := by
  obtain ⟨a1, a2, a3, a4⟩ := pointB_true hp
  have h2 : RdPts (w.alloc (Obj.cells #[Value.int IntKind.i64 1, Value.slice A 2 c, Value.int IntKind.i64 0] 35)) A 2 [(x, y), (x, y)] := h.below ((Below.refl _ _).alloc (Nat.le_refl _) _)
  have H2 := Lib.hid h2
  have HV : Hid (validB 1 [(x, y), (x, y)] 0 = true) := by simp [validB, formB, hp, Hid]
  have HC : Hid (cornersOf (bbTo x y [(x, y), (x, y)]) 0 = (x, y, x, y)) := by simp only [cornersOf, bbTo, List.foldl, bbStep, Hid, Prod.mk.injEq]; omega
  clear h2 h
  have hv' : (errOf true != 0) = false := by decide
  go_enter Try.func21, Try.ntmps21
  go_wp2_with fail
  refine (valid_any _ _ _ _ _ _ _ H2.out).mono ?_
  rintro e w1 ⟨rfl, hb⟩
  rw [HV.out]
  have N1 : Blk w1 w.heap.size 35 #[Value.int IntKind.i64 1, Value.slice A 2 c, Value.int IntKind.i64 0] := (Blk.new_at rfl).step hb
  have N4 : Below w.heap.size w w1 := ((Below.refl _ _).alloc (by simp) _).trans (hb.mono (by simp))
  have h3 := H2.out.below hb
  have e0 := N1.cell 0
  have e1 := N1.cell 1
  have e2 := N1.cell 2
  simp at e0 e1 e2
  have H3 := Lib.hid h3
  have J4 := Lib.hid N4
  clear h3 hb N4 H2 N1
  go_wp2_with fail
  refine (bounds_any _ _ _ _ _ x y _ _ H3.out (by omega) (by omega) rfl (by simp [hp])).mono ?_
  rintro e w2 ⟨rfl, hb⟩
  rw [HC.out]
  have N4 := J4.out.step' hb
  have J5 := Lib.hid N4
  clear N4 e0 e1 e2 J4 H3 hb
  go_wp2_with fail
  go_loopw [7] (fun v7 wr => v7 = .int .i64 0 ∧ Blk wr w2.heap.size 27 #[.int .i64 x, .int .i64 y] ∧ Blk wr (w2.heap.size + 1) 27 #[.int .i64 x, .int .i64 y] ∧ Below w.heap.size w wr) (fun _ _ => 0)
  case atStart => exact ⟨rfl, (Blk.new_at rfl).alloc _, Blk.new_at (by simp), (J5.out.alloc J5.out.size _).alloc (by have := J5.out.size; simp; omega) _⟩
  case round =>
    obtain ⟨rfl, N1, N2, N3⟩ := hrel
    have e0 := N1.cell 0
    have e1 := N1.cell 1
    have e2 := N2.cell 0
    have e3 := N2.cell 1
    simp at e0 e1 e2 e3
    have J1 := Lib.hid N1
    have J2 := Lib.hid N2
    have J3 := Lib.hid N3
    clear N1 N2 N3
    go_wp2_with fail
    go_quiet (fail)
    have N1 := J1.out.drewN nq
    have N2 := J2.out.drewN nq
    have N3 := J3.out.drewN nq
    clear J1 J2 J3 e0 e1 e2 e3
    generalize wr.drewN nq = wq at *
    have e0 := N1.cell 0
    have e1 := N1.cell 1
    have e2 := N2.cell 0
    have e3 := N2.cell 1
    simp at e0 e1 e2 e3
    have l1 := N1.lt
    have l2 := N2.lt
    have J3 := Lib.hid N3
    clear N1 N2 N3
    go_wp2_with fail
    go_region
    go_wp2_with fail
    refine (fill_one _ _ hp _).mono ?_
    rintro e w3 ⟨g, cap, rfl, hg, q0, q1, hb⟩
    have N3 : Below w.heap.size w w3 := by
      refine (Below.trans ?_ (hb.mono ?_))
      · exact (J3.out.drew.alloc (by have := J3.out.size; simp; omega) _)
      · have := J3.out.size; simp; omega
    have hg' : w.heap.size ≤ g := by have := J3.out.size; simp at hg; omega
    have J6 := Lib.hid N3
    clear N3 hb hg
    go_wp2_with fail
    refine (reduce_few _ _ _ _ _ (by omega)).mono ?_
    rintro e w4 ⟨rfl, hb⟩
    go_wp2_with fail
    go_ret
    have hlt : g < w3.heap.size := World.block_lt_of_cell? w3 _ q0
    exact ⟨g, cap, rfl, hg', (hb.cell (p := ⟨g, 0, none⟩) hlt).trans q0, (hb.cell (p := ⟨g, 1, none⟩) hlt).trans q1, J6.out.step' hb⟩

end Go.Proofs.Ytefolbfopjfbcaa
