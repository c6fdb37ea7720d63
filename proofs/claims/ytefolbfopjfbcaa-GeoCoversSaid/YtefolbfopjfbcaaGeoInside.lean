/- The contract of geo.Inside. -/
import Derived.Test.YtefolbfopjfbcaaGeoBounds
import Derived.Test.YtefolbfopjfbcaaKit2
namespace Go.Proofs.Ytefolbfopjfbcaa
open Go.RowKit

def polyFrom (ax ay : Int) (odd : Bool) (px py : Int) : List (Int × Int) → Bool
  | [] => odd
  | b :: r => if edgeB ax ay b.1 b.2 px py then true else polyFrom b.1 b.2 (if crossB ax ay b.1 b.2 px py then !odd else odd) px py r
def boxB (b : Box) (x y : Int) : Bool := decide (b.1 ≤ x) && (decide (x ≤ b.2.2.1) && (decide (b.2.1 ≤ y) && decide (y ≤ b.2.2.2)))
def headP (ps : List (Int × Int)) : Int × Int := ps.headD (0, 0)
def lastP (ps : List (Int × Int)) : Int × Int := ps.getLastD (0, 0)
def insideCore (k : Int) (ps : List (Int × Int)) (r x y : Int) : Bool :=
  if k == 1 then boxB (cornersOf (bbTo (headP ps).1 (headP ps).2 ps) r) x y
  else if k == 2 then decide (distI (headP ps).1 (headP ps).2 x y ≤ r * r)
  else polyFrom (lastP ps).1 (lastP ps).2 false x y ps
def insideB (k : Int) (ps : List (Int × Int)) (r x y : Int) : Bool := validB k ps r && (pointB x y && insideCore k ps r x y)

theorem head_of {ps : List (Int × Int)} {p : Int × Int} (h : ps[0]? = some p) : headP ps = p := by
  cases ps with
  | nil => simp at h
  | cons a l => simpa [headP] using h
theorem last_of {ps : List (Int × Int)} {p : Int × Int} (h : ps[ps.length - 1]? = some p) : lastP ps = p := by
  rw [lastP, List.getLastD_eq_getLast?, List.getLast?_eq_getElem?, h]
  rfl
theorem validB_form {k : Int} {ps : List (Int × Int)} {r : Int} (h : validB k ps r = true) : formB k ps.length r = true ∧ ∀ p ∈ ps, pointB p.1 p.2 = true := by
  simpa [validB] using h
theorem formB_cases {k n r : Int} (h : formB k n r = true) : (k = 1 ∧ n = 2 ∧ r = 0) ∨ (k = 2 ∧ n = 1 ∧ 0 ≤ r ∧ r < 65536) ∨ (k = 3 ∧ 3 ≤ n ∧ n ≤ 64 ∧ r = 0) := by
  simp only [formB] at h
  split at h
  · split at h <;> simp_all
  · split at h
    · split at h
      · have := coordB_true h; simp_all
      · simp at h
    · split at h
      · split at h
        · split at h <;> simp_all
        · simp at h
      · simp at h

set_option maxHeartbeats 1000000 in
theorem inside_no (k : Int) (A : Option Addr) (n c : Nat) (r : Int) (ps : List (Int × Int)) (x y : Int) (w : World) (h : RdPts w A n ps) (hn : (validB k ps r && pointB x y) = false) :
    Calls Try.prog 13 #[shp k A n c r, pt x y] w fun e w' => e = .returned (.bool (insideB k ps r x y)) ∧ Below w.heap.size w w' := by
  have HE : Hid (insideB k ps r x y = false) := by simp only [insideB, ← Bool.and_assoc, hn, Bool.false_and, Hid]
  have h2 : RdPts ((w.alloc (Obj.cells #[Value.int IntKind.i64 k, Value.slice A n c, Value.int IntKind.i64 r] 35)).alloc (Obj.cells #[Value.int IntKind.i64 x, Value.int IntKind.i64 y] 27)) A n ps :=
    h.below (((Below.refl _ _).alloc (Nat.le_refl _) _).alloc (by simp) _)
  have H2 := Lib.hid h2
  clear h2 h
  cases hv : validB k ps r
  · have hv' : ((errOf false) != 0) = true := by decide
    clear hn
    go_enter Try.func13, Try.ntmps13
    go_wp2_with fail
    refine (valid_any _ _ _ _ _ _ _ H2.out).mono ?_
    rintro e w1 ⟨rfl, hb⟩
    go_wp2_with fail
    go_ret
    exact ⟨by rw [HE.out]; rfl, (((Below.refl _ _).alloc (Nat.le_refl _) _).alloc (by simp) _).trans (hb.mono (by simp; omega))⟩
  · have hp : pointB x y = false := by simpa [hv] using hn
    have hv' : ((errOf true) != 0) = false := by decide
    clear hn
    go_enter Try.func13, Try.ntmps13
    go_wp2_with fail
    refine (valid_any _ _ _ _ _ _ _ H2.out).mono ?_
    rintro e w1 ⟨rfl, hb⟩
    obtain ⟨hc1, hf1⟩ := bcell hb
    go_wp2_with fail
    refine (isPoint_any _ _ _).mono ?_
    rintro e w2 ⟨rfl, hb2⟩
    replace hb := hb.step hb2
    go_wp2_with fail
    go_ret
    exact ⟨by rw [HE.out]; rfl, (((Below.refl _ _).alloc (Nat.le_refl _) _).alloc (by simp) _).trans (hb.mono (by simp; omega))⟩

set_option maxHeartbeats 1000000 in
theorem inside_yes (k : Int) (A : Option Addr) (n c : Nat) (r : Int) (ps : List (Int × Int)) (x y : Int) (w : World) (h : RdPts w A n ps) (hv : validB k ps r = true) (hp : pointB x y = true) :
    Calls Try.prog 13 #[shp k A n c r, pt x y] w fun e w' => e = .returned (.bool (insideCore k ps r x y)) ∧ Below w.heap.size w w' := by
  obtain ⟨hf, hps⟩ := validB_form hv
  rw [h.1] at hf
  have HPS := Lib.hid hps
  have h2 : RdPts ((w.alloc (Obj.cells #[Value.int IntKind.i64 k, Value.slice A n c, Value.int IntKind.i64 r] 35)).alloc (Obj.cells #[Value.int IntKind.i64 x, Value.int IntKind.i64 y] 27)) A n ps :=
    h.below (((Below.refl _ _).alloc (Nat.le_refl _) _).alloc (by simp) _)
  have H2 := Lib.hid h2
  have HF := Lib.hid hf
  have hv' : ((errOf true) != 0) = false := by decide
  clear h2 h hps hf
  go_enter Try.func13, Try.ntmps13
  go_wp2_with fail
  refine (valid_any _ _ _ _ _ _ _ H2.out).mono ?_
  rintro e w1 ⟨rfl, hb⟩
  obtain ⟨hc1, hf1⟩ := bcell hb
  go_wp2_with fail
  refine (isPoint_any _ _ _).mono ?_
  rintro e w2 ⟨rfl, hb2⟩
  replace hb := hb.step hb2
  clear hb2 hc1 hf1 w1
  have B1 : Blk w2 w.heap.size 35 #[Value.int IntKind.i64 k, Value.slice A n c, Value.int IntKind.i64 r] := ((Blk.new_at rfl).alloc _).below hb (by simp; omega)
  have B2 : Blk w2 (w.heap.size + 1) 27 #[Value.int IntKind.i64 x, Value.int IntKind.i64 y] := (Blk.new_at (by simp)).below hb (by simp)
  have B3 : Below w.heap.size w w2 := (((Below.refl _ _).alloc (Nat.le_refl _) _).alloc (by simp) _).trans (hb.mono (by simp; omega))
  have h3 := (H2.out).below hb
  clear hb H2
  have e0 := B1.cell 0
  have e1 := B1.cell 1
  have e2 := B1.cell 2
  have f0 := B2.cell 0
  have f1 := B2.cell 1
  simp at e0 e1 e2 f0 f1
  have H3 := Lib.hid h3
  have J1 := Lib.hid B1
  have J2 := Lib.hid B2
  have J3 := Lib.hid B3
  clear h3 B1 B2 B3
  rcases formB_cases HF.out with ⟨rfl, h2, rfl⟩ | ⟨rfl, h2, hr0, hr1⟩ | ⟨rfl, h2, h3, rfl⟩
  · -- the box
    obtain rfl : n = 2 := by omega
    clear h2
    obtain ⟨⟨x0, y0⟩, hx0⟩ : ∃ p, ps[0]? = some p := ⟨_, List.getElem?_eq_getElem (by have := H3.out.1; omega)⟩
    have HX := Lib.hid hx0
    clear hx0
    go_wp2_with fail
    refine (bounds_any _ _ _ _ _ x0 y0 ps _ H3.out (by omega) (by omega) HX.out HPS.out).mono ?_
    rintro e w3 ⟨rfl, hb3⟩
    have B2 := J2.out.step hb3
    have l2 := B2.lt
    have g0 := B2.cell 0
    have g1 := B2.cell 1
    simp at g0 g1
    have J4 := Lib.hid (J3.out.step' hb3)
    have HE : Hid (insideCore 1 ps 0 x y = boxB (cornersOf (bbTo x0 y0 ps) 0) x y) := by simp [insideCore, Hid, head_of HX.out]
    clear B2 hb3 f0 f1 e0 e1 e2 J1 J2 J3
    generalize cornersOf (bbTo x0 y0 ps) 0 = C at *
    obtain ⟨lx, ly, ux, uy⟩ := C
    have l3 : w.heap.size < w3.heap.size := by omega
    go_wp2_with fail
    all_goals go_ret
    all_goals refine ⟨ret_bool ?_, ((J4.out.alloc J4.out.size _).alloc (by have := J4.out.size; simp; omega) _)⟩
    all_goals (rw [HE.out, Bool.eq_iff_iff]; simp [boxB, *]; try omega)
  · -- the circle
    obtain rfl : n = 1 := by omega
    clear h2
    obtain ⟨⟨x0, y0⟩, hx0⟩ : ∃ p, ps[0]? = some p := ⟨_, List.getElem?_eq_getElem (by have := H3.out.1; omega)⟩
    have HE : Hid (insideCore 2 ps r x y = decide (distI x0 y0 x y ≤ r * r)) := by simp [insideCore, Hid, head_of hx0]
    obtain ⟨b, off, rfl, hb, hc⟩ := H3.out.2.2 (by omega)
    obtain ⟨c0, c1⟩ := hc 0 x0 y0 hx0
    simp at c0 c1
    have sr := sq_bound (a := r) (b := r) (by omega) (by omega) (by omega) (by omega)
    clear hx0 hc
    go_wp2_with fail
    have E1 : ∀ k : BW w2, k.val.cell? ⟨w.heap.size, 1, none⟩ = some (Value.slice (some ⟨b, off, none⟩) 1 c) := fun k => k.cell e1
    have E2 : ∀ k : BW w2, k.val.cell? ⟨w.heap.size, 2, none⟩ = some (Value.int IntKind.i64 r) := fun k => k.cell e2
    have F0 : ∀ k : BW w2, k.val.cell? ⟨w.heap.size + 1, 0, none⟩ = some (Value.int IntKind.i64 x) := fun k => k.cell f0
    have F1 : ∀ k : BW w2, k.val.cell? ⟨w.heap.size + 1, 1, none⟩ = some (Value.int IntKind.i64 y) := fun k => k.cell f1
    have C0 : ∀ k : BW w2, k.val.cell? ⟨b, off, none⟩ = some (Value.int IntKind.i64 x0) := fun k => k.cell c0
    have C1 : ∀ k : BW w2, k.val.cell? ⟨b, off + 1, none⟩ = some (Value.int IntKind.i64 y0) := fun k => k.cell c1
    refine wp_region_bw (by kernel_rfl) (by kernel_rfl) ?_
    repeat (go_big_quiet_step (exact Calls.bw (distance_any _ _ _ _ _)))
    refine wpQuiet_nil ?_
    rintro _ ⟨kw, rfl⟩
    clear E1 E2 F0 F1 C0 C1
    go_wp2_with fail
    go_ret
    exact ⟨by rw [HE.out]; rfl, J3.out.step' kw.below⟩
  · -- the polygon
    obtain ⟨hl, hn, hr⟩ := H3.out
    obtain ⟨b, off, rfl, hb, hc⟩ := hr (by omega)
    obtain ⟨⟨x0, y0⟩, hx0⟩ : ∃ p, ps[n - 1]? = some p := ⟨_, List.getElem?_eq_getElem (by omega)⟩
    obtain ⟨c0, c1⟩ := hc (n - 1) x0 y0 hx0
    have HC := Lib.hid hc
    have HE : Hid (insideCore 3 ps 0 x y = polyFrom x0 y0 false x y ps) := by simp [insideCore, Hid, last_of (by rw [hl]; exact hx0)]
    unfold maxLen at hn
    have HL := Lib.hid hl
    have hp0 := HPS.out _ (List.mem_of_getElem? hx0)
    simp only at hp0
    clear hr hc hx0 hl
    have l1 : w.heap.size < w2.heap.size := J1.out.lt
    have l2 : w.heap.size + 1 < w2.heap.size := J2.out.lt
    have e : ((n - 1 : Nat) : Int) = (n : Int) - 1 := by omega
    go_wp2_with fail
    go_loopw [4, 7, 10, 79] (fun v4 v7 v10 v79 wr => ∃ (i : Nat) (ax ay : Int) (odd : Bool), i ≤ n ∧ v4 = .bool false ∧ v7 = .bool odd ∧ v79 = .int .i64 i ∧ pointB ax ay = true ∧ polyFrom x0 y0 false x y ps = polyFrom ax ay odd x y (ps.drop i) ∧
      Blk wr w.heap.size 35 #[Value.int IntKind.i64 3, Value.slice (some ⟨b, off, none⟩) n c, Value.int IntKind.i64 0] ∧ Blk wr (w.heap.size + 1) 27 #[.int .i64 x, .int .i64 y] ∧ Blk wr w2.heap.size 27 #[.int .i64 ax, .int .i64 ay] ∧ Below w2.heap.size w2 wr) (fun _ _ _ v79 _ => n - (intOf v79).toNat)
    case atStart => exact ⟨0, x0, y0, false, Nat.zero_le _, rfl, rfl, rfl, hp0, rfl, J1.out.alloc _, J2.out.alloc _, Blk.new_at rfl, (Below.refl _ _).alloc (Nat.le_refl _) _⟩
    case round =>
      obtain ⟨i, ax, ay, odd, hi, rfl, rfl, rfl, ha, hpoly, i1, i2, i3, i4⟩ := hrel
      have HP := Lib.hid hpoly
      clear hpoly
      by_cases hlt : i < n
      · obtain ⟨⟨bx, by'⟩, hxy⟩ : ∃ p, ps[i]? = some p := ⟨_, List.getElem?_eq_getElem (by have := HL.out; omega)⟩
        obtain ⟨c0, c1⟩ := HC.out i bx by' hxy
        have hbp := HPS.out _ (List.mem_of_getElem? hxy)
        simp only at hbp
        have d0 := (i4.cell (p := ⟨b, off + i * 2, none⟩) hb).trans c0
        have d1 := (i4.cell (p := ⟨b, off + i * 2 + 1, none⟩) hb).trans c1
        have HQ : Hid (polyFrom x0 y0 false x y ps = if edgeB ax ay bx by' x y then true else polyFrom bx by' (if crossB ax ay bx by' x y then !odd else odd) x y (ps.drop (i + 1))) := by
          rw [Hid, HP.out, drop_of hxy]; rfl
        clear c0 c1 hxy HP
        have g0 := i2.cell 0
        have g1 := i2.cell 1
        have g2 := i3.cell 0
        have g3 := i3.cell 1
        simp at g0 g1 g2 g3
        have k1 := i2.lt
        have k2 := i3.lt
        have k3 : b < wr.heap.size := by omega
        have K1 := Lib.hid i1
        have K2 := Lib.hid i2
        have K3 := Lib.hid i3
        have K4 := Lib.hid i4
        clear i1 i2 i3 i4 e e0 e1 e2 f0 f1 c0 c1
        go_wp2_with fail
        refine (onEdge_any _ _ _ _ _ _ _ ha hbp hp).mono ?_
        rintro e w3 ⟨rfl, hb3⟩
        have K5 := Lib.hid hb3
        have n1 := ((K1.out.alloc (Obj.cells #[Value.int IntKind.i64 bx, Value.int IntKind.i64 by'] 27)).step hb3)
        have n2 := ((K2.out.alloc (Obj.cells #[Value.int IntKind.i64 bx, Value.int IntKind.i64 by'] 27)).step hb3)
        have n3 := ((K3.out.alloc (Obj.cells #[Value.int IntKind.i64 bx, Value.int IntKind.i64 by'] 27)).step hb3)
        have n4 := (Blk.new wr 27 #[Value.int IntKind.i64 bx, Value.int IntKind.i64 by']).step hb3
        have n5 := (K4.out.alloc K4.out.size (Obj.cells #[Value.int IntKind.i64 bx, Value.int IntKind.i64 by'] 27)).trans (hb3.mono (by have := K4.out.size; simp; omega))
        clear hb3 K5 K1 K2 K3 K4 g0 g1 g2 g3 d0 d1
        cases he : edgeB ax ay bx by' x y
        · simp only [he, Bool.false_eq_true, if_false] at HQ
          have g0 := n2.cell 0
          have g1 := n2.cell 1
          have g2 := n3.cell 0
          have g3 := n3.cell 1
          have g4 := n4.cell 0
          have g5 := n4.cell 1
          simp at g0 g1 g2 g3 g4 g5
          have N1 := Lib.hid n1
          have N2 := Lib.hid n2
          have N3 := Lib.hid n3
          have N4 := Lib.hid n4
          have N5 := Lib.hid n5
          clear n1 n2 n3 n4 n5
          go_wp2_with fail
          refine (crosses_any _ _ _ _ _ _ _ ha hbp hp).mono ?_
          rintro e w4 ⟨rfl, hb4⟩
          have n1 := N1.out.step hb4
          have n2 := N2.out.step hb4
          have n3 := N3.out.step hb4
          have n4 := N4.out.step hb4
          have n5 := N5.out.step' hb4
          clear N1 N2 N3 N4 N5 hb4 g0 g1 g2 g3 g4 g5
          have g2 := n3.cell 0
          have g3 := n3.cell 1
          have g4 := n4.cell 0
          have g5 := n4.cell 1
          simp at g2 g3 g4 g5
          have z0 := n3.frozen 0
          have z1 := n3.frozen 1
          have N1 := Lib.hid n1
          have N2 := Lib.hid n2
          have N3 := Lib.hid n3
          have N4 := Lib.hid n4
          have N5 := Lib.hid n5
          clear n1 n2 n3 n4 n5
          cases hc : crossB ax ay bx by' x y
          all_goals
            simp only [hc, Bool.false_eq_true, if_false, if_true] at HQ
            go_wp2_with fail
            go_roundw
            case rel =>
              exact ⟨i + 1, bx, by', _, by omega, rfl, rfl, by go_num, hbp, HQ.out, (N1.out.far (by show w.heap.size ≠ w2.heap.size; omega) _).far (by show w.heap.size ≠ w2.heap.size; omega) _, (N2.out.far (by show w.heap.size + 1 ≠ w2.heap.size; omega) _).far (by show w.heap.size + 1 ≠ w2.heap.size; omega) _, (N3.out.set_ 0 _).set_ 1 _, (N5.out.setCell (Nat.le_refl _) _).setCell (Nat.le_refl _) _⟩
            case measure => simp [intOf]; omega
        · simp only [he, if_true] at HQ
          have N5 := Lib.hid n5
          clear n1 n2 n3 n4 n5
          go_wp2_with fail
          go_ret
          exact ⟨by rw [HE.out, HQ.out]; rfl, J3.out.step' N5.out⟩
      · obtain rfl : i = n := by omega
        have HQ : Hid (polyFrom x0 y0 false x y ps = odd) := by
          rw [Hid, HP.out, List.drop_of_length_le (by have := HL.out; omega)]; rfl
        have N5 := Lib.hid i4
        clear i1 i2 i3 i4 c0 c1 e0 e1 e2 f0 f1
        go_wp2_with fail
        go_ret
        exact ⟨by rw [HE.out, HQ.out]; rfl, J3.out.step' N5.out⟩

theorem inside_any (k : Int) (A : Option Addr) (n c : Nat) (r : Int) (ps : List (Int × Int)) (x y : Int) (w : World) (h : RdPts w A n ps) :
    Calls Try.prog 13 #[shp k A n c r, pt x y] w fun e w' => e = .returned (.bool (insideB k ps r x y)) ∧ Below w.heap.size w w' := by
  cases hb : (validB k ps r && pointB x y)
  · exact inside_no k A n c r ps x y w h hb
  · have h1 : validB k ps r = true ∧ pointB x y = true := by simpa using hb
    have e : insideB k ps r x y = insideCore k ps r x y := by simp [insideB, h1]
    rw [e]
    exact inside_yes k A n c r ps x y w h h1.1 h1.2

end Go.Proofs.Ytefolbfopjfbcaa
