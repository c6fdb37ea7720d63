/- The contract of the reference's Inside. -/
import Derived.Test.YtefolbfopjfbcaaGeoPoly
namespace Go.Proofs.Ytefolbfopjfbcaa
open Go.RowKit
set_option linter.unusedSimpArgs false

def rinsideCore (k : Int) (ps : List (Int × Int)) (r x y : Int) : Bool :=
  if k == 1 then betwB x (ps.getD 0 (0, 0)).1 (ps.getD 1 (0, 0)).1 && betwB y (ps.getD 0 (0, 0)).2 (ps.getD 1 (0, 0)).2
  else if k == 2 then decide (distI (headP ps).1 (headP ps).2 x y ≤ r * r)
  else polyE x y false (edgesR ps)
def rinsideB (k : Int) (ps : List (Int × Int)) (r x y : Int) : Bool := validB k ps r && (pointB x y && rinsideCore k ps r x y)

theorem between_of {n a b : Int} {v : Bool} (h : betwB n a b = v) (w : World) :
    Calls Try.prog 35 #[.int .i64 n, .int .i64 a, .int .i64 b] w fun e w' => e = .returned (.bool v) ∧ w = w' := by
  subst h
  exact between_any n a b w
theorem Calls.quiet_left {P : Program} {f : FuncId} {args : Array Value} {w : World} {n : Nat} {v : Value}
    (h : Calls P f args (w.drewN n) fun e w' => e = .returned v ∧ w.drewN n = w') : Calls P f args (w.drewN n) fun e w'' => e = .returned v ∧ ∃ m, w'' = w.drewN m :=
  h.mono fun _ _ ⟨he, hm⟩ => ⟨he, n, hm.symm⟩

set_option maxHeartbeats 1000000 in
theorem rinside_no (k : Int) (A : Option Addr) (n c : Nat) (r : Int) (ps : List (Int × Int)) (x y : Int) (w : World) (h : RdPts w A n ps) (hn : (validB k ps r && pointB x y) = false) :
    Calls Try.prog 14 #[shp k A n c r, pt x y] w fun e w' => e = .returned (.bool (rinsideB k ps r x y)) ∧ Below w.heap.size w w' := by
  have HE : Hid (rinsideB k ps r x y = false) := by simp only [rinsideB, ← Bool.and_assoc, hn, Bool.false_and, Hid]
  have h2 : RdPts ((w.alloc (Obj.cells #[Value.int IntKind.i64 k, Value.slice A n c, Value.int IntKind.i64 r] 35)).alloc (Obj.cells #[Value.int IntKind.i64 x, Value.int IntKind.i64 y] 27)) A n ps :=
    h.below (((Below.refl _ _).alloc (Nat.le_refl _) _).alloc (by simp) _)
  have H2 := Lib.hid h2
  clear h2 h
  cases hv : validB k ps r
  · have hv' : ((errOf false) != 0) = true := by decide
    clear hn
    go_enter Try.func14, Try.ntmps14
    go_wp2_with fail
    refine (rvalid_any _ _ _ _ _ _ _ H2.out).mono ?_
    rintro e w1 ⟨rfl, hb⟩
    go_wp2_with fail
    go_ret
    exact ⟨by rw [HE.out]; rfl, (((Below.refl _ _).alloc (Nat.le_refl _) _).alloc (by simp) _).trans (hb.mono (by simp; omega))⟩
  · have hp : pointB x y = false := by simpa [hv] using hn
    have hv' : ((errOf true) != 0) = false := by decide
    clear hn
    go_enter Try.func14, Try.ntmps14
    go_wp2_with fail
    refine (rvalid_any _ _ _ _ _ _ _ H2.out).mono ?_
    rintro e w1 ⟨rfl, hb⟩
    obtain ⟨hc1, hf1⟩ := bcell hb
    go_wp2_with fail
    refine (ris_any _ _ _).mono ?_
    rintro e w2 ⟨rfl, hb2⟩
    replace hb := hb.step hb2
    go_wp2_with fail
    go_ret
    exact ⟨by rw [HE.out]; rfl, (((Below.refl _ _).alloc (Nat.le_refl _) _).alloc (by simp) _).trans (hb.mono (by simp; omega))⟩

set_option maxHeartbeats 1000000 in
theorem rinside_yes (k : Int) (A : Option Addr) (n c : Nat) (r : Int) (ps : List (Int × Int)) (x y : Int) (w : World) (h : RdPts w A n ps) (hv : validB k ps r = true) (hp : pointB x y = true) :
    Calls Try.prog 14 #[shp k A n c r, pt x y] w fun e w' => e = .returned (.bool (rinsideCore k ps r x y)) ∧ Below w.heap.size w w' := by
  obtain ⟨hf, hps⟩ := validB_form hv
  rw [h.1] at hf
  have HPS := Lib.hid hps
  have h2 : RdPts ((w.alloc (Obj.cells #[Value.int IntKind.i64 k, Value.slice A n c, Value.int IntKind.i64 r] 35)).alloc (Obj.cells #[Value.int IntKind.i64 x, Value.int IntKind.i64 y] 27)) A n ps :=
    h.below (((Below.refl _ _).alloc (Nat.le_refl _) _).alloc (by simp) _)
  have H2 := Lib.hid h2
  have HF := Lib.hid hf
  have hv' : ((errOf true) != 0) = false := by decide
  clear h2 h hps hf
  go_enter Try.func14, Try.ntmps14
  go_wp2_with fail
  refine (rvalid_any _ _ _ _ _ _ _ H2.out).mono ?_
  rintro e w1 ⟨rfl, hb⟩
  obtain ⟨hc1, hf1⟩ := bcell hb
  go_wp2_with fail
  refine (ris_any _ _ _).mono ?_
  rintro e w2 ⟨rfl, hb2⟩
  replace hb := hb.step hb2
  clear hb2 hc1 hf1 w1
  have B1 : Blk w2 w.heap.size 35 #[Value.int IntKind.i64 k, Value.slice A n c, Value.int IntKind.i64 r] := ((Blk.new_at rfl).alloc _).below hb (by simp; omega)
  have B2 : Blk w2 (w.heap.size + 1) 27 #[Value.int IntKind.i64 x, Value.int IntKind.i64 y] := (Blk.new_at (by simp)).below hb (by simp)
  have B3 : Below w.heap.size w w2 := (((Below.refl _ _).alloc (Nat.le_refl _) _).alloc (by simp) _).trans (hb.mono (by simp; omega))
  have h3 := (H2.out).below hb
  clear hb H2
  have e0 := B1.cell 0
  have e1 := B1.cell 1
  have e2 := B1.cell 2
  have f0 := B2.cell 0
  have f1 := B2.cell 1
  simp at e0 e1 e2 f0 f1
  have H3 := Lib.hid h3
  have J1 := Lib.hid B1
  have J2 := Lib.hid B2
  have J3 := Lib.hid B3
  clear h3 B1 B2 B3
  rcases formB_cases HF.out with ⟨rfl, h2, rfl⟩ | ⟨rfl, h2, hr0, hr1⟩ | ⟨rfl, h2, h3, rfl⟩
  · -- the box
    obtain rfl : n = 2 := by omega
    clear h2
    obtain ⟨⟨x0, y0⟩, hx0⟩ : ∃ p, ps[0]? = some p := ⟨_, List.getElem?_eq_getElem (by have := H3.out.1; omega)⟩
    obtain ⟨⟨x1, y1⟩, hx1⟩ : ∃ p, ps[1]? = some p := ⟨_, List.getElem?_eq_getElem (by have := H3.out.1; omega)⟩
    have HE : Hid (rinsideCore 1 ps 0 x y = (betwB x x0 x1 && betwB y y0 y1)) := by simp [rinsideCore, Hid, hx0, hx1]
    obtain ⟨b, off, rfl, hb, hc⟩ := H3.out.2.2 (by omega)
    obtain ⟨c0, c1⟩ := hc 0 x0 y0 hx0
    obtain ⟨c2, c3⟩ := hc 1 x1 y1 hx1
    simp at c0 c1 c2 c3
    clear hx0 hx1 hc
    cases hbx : betwB x x0 x1
    · simp only [hbx, Bool.false_and] at HE
      go_wp2_with fail
      refine wp_region_quiet_lit (by kernel_rfl) (by kernel_rfl) ?_
      repeat (go_big_quiet_step (first | (go_at_call 35; with_reducible exact Calls.quiet_left (between_of hbx _)) | (go_at_call 35; exact Calls.quiet_left (between_any _ _ _ _))))
      refine wpQuiet_nil ?_
      rintro _ ⟨nq, rfl⟩
      go_wp2_with fail
      go_ret
      exact ⟨by rw [HE.out]; rfl, J3.out.drewN _⟩
    · simp only [hbx, Bool.true_and] at HE
      go_wp2_with fail
      refine wp_region_quiet_lit (by kernel_rfl) (by kernel_rfl) ?_
      repeat (go_big_quiet_step (first | (go_at_call 35; with_reducible exact Calls.quiet_left (between_of hbx _)) | (go_at_call 35; exact Calls.quiet_left (between_any _ _ _ _))))
      refine wpQuiet_nil ?_
      rintro _ ⟨nq, rfl⟩
      go_wp2_with fail
      go_ret
      exact ⟨by rw [HE.out]; rfl, J3.out.drewN _⟩
  · -- the circle
    obtain rfl : n = 1 := by omega
    clear h2
    obtain ⟨⟨x0, y0⟩, hx0⟩ : ∃ p, ps[0]? = some p := ⟨_, List.getElem?_eq_getElem (by have := H3.out.1; omega)⟩
    have HE : Hid (rinsideCore 2 ps r x y = decide (distI x0 y0 x y ≤ r * r)) := by simp [rinsideCore, Hid, head_of hx0]
    obtain ⟨b, off, rfl, hb, hc⟩ := H3.out.2.2 (by omega)
    obtain ⟨c0, c1⟩ := hc 0 x0 y0 hx0
    simp at c0 c1
    have sr := sq_bound (a := r) (b := r) (by omega) (by omega) (by omega) (by omega)
    clear hx0 hc
    go_wp2_with fail
    have E1 : ∀ k : BW w2, k.val.cell? ⟨w.heap.size, 1, none⟩ = some (Value.slice (some ⟨b, off, none⟩) 1 c) := fun k => k.cell e1
    have E2 : ∀ k : BW w2, k.val.cell? ⟨w.heap.size, 2, none⟩ = some (Value.int IntKind.i64 r) := fun k => k.cell e2
    have F0 : ∀ k : BW w2, k.val.cell? ⟨w.heap.size + 1, 0, none⟩ = some (Value.int IntKind.i64 x) := fun k => k.cell f0
    have F1 : ∀ k : BW w2, k.val.cell? ⟨w.heap.size + 1, 1, none⟩ = some (Value.int IntKind.i64 y) := fun k => k.cell f1
    have C0 : ∀ k : BW w2, k.val.cell? ⟨b, off, none⟩ = some (Value.int IntKind.i64 x0) := fun k => k.cell c0
    have C1 : ∀ k : BW w2, k.val.cell? ⟨b, off + 1, none⟩ = some (Value.int IntKind.i64 y0) := fun k => k.cell c1
    refine wp_region_bw (by kernel_rfl) (by kernel_rfl) ?_
    repeat (go_big_quiet_step (exact Calls.bw (rdistance_any _ _ _ _ _)))
    refine wpQuiet_nil ?_
    rintro _ ⟨kw, rfl⟩
    clear E1 E2 F0 F1 C0 C1
    go_wp2_with fail
    go_ret
    exact ⟨by rw [HE.out]; rfl, J3.out.step' kw.below⟩
  · -- the polygon
    have HE : Hid (rinsideCore 3 ps 0 x y = polyE x y false (edgesR ps)) := rfl
    go_wp2_with fail
    refine (polygon_any _ _ _ _ _ _ _ H3.out (by omega) (by omega) HPS.out hp).mono ?_
    rintro e w3 ⟨rfl, hb3⟩
    go_wp2_with fail
    go_ret
    exact ⟨by rw [HE.out]; rfl, J3.out.step' hb3⟩

theorem rinside_any (k : Int) (A : Option Addr) (n c : Nat) (r : Int) (ps : List (Int × Int)) (x y : Int) (w : World) (h : RdPts w A n ps) :
    Calls Try.prog 14 #[shp k A n c r, pt x y] w fun e w' => e = .returned (.bool (rinsideB k ps r x y)) ∧ Below w.heap.size w w' := by
  cases hb : (validB k ps r && pointB x y)
  · exact rinside_no k A n c r ps x y w h hb
  · have h1 : validB k ps r = true ∧ pointB x y = true := by simpa using hb
    have e : rinsideB k ps r x y = rinsideCore k ps r x y := by simp [rinsideB, h1]
    rw [e]
    exact rinside_yes k A n c r ps x y w h h1.1 h1.2

end Go.Proofs.Ytefolbfopjfbcaa
