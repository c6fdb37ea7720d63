/- The contract of geo.Point at a list of two values. -/
import Derived.Test.YtefolbfopjfbcaaGeoBounds
import Derived.Test.YtefolbfopjfbcaaKit2
namespace Go.Proofs.Ytefolbfopjfbcaa
open Go.RowKit

def ptOk (k0 n0 k1 n1 : Int) : Bool := if k0 == 3 then if k1 == 3 then pointB n0 n1 else false else false
def ptRes (k0 n0 k1 n1 : Int) : Value := if ptOk k0 n0 k1 n1 then .tuple #[pt n0 n1, .int .i64 0] else .tuple #[pt 0 0, .int .i64 18]

theorem results_pt_err {fn : Func} {p u : Tmp} (h : fn.results = #[.cell p 27, .tmp u]) (tmps : Array Value) (g1 : Nat) (h1 : tmps.getD p undef = .pointer (some ⟨g1, 0, none⟩)) (e : Value) (h2 : tmps.getD u undef = e)
    (W : World) (x1 y1 : Int) (q0 : W.cell? ⟨g1, 0, none⟩ = some (.int .i64 x1)) (q1 : W.cell? ⟨g1, 1, none⟩ = some (.int .i64 y1)) :
    (results fn tmps).run Try.prog W = .ok (.tuple #[pt x1 y1, e]) W := by
  rw [results_cell_tmp h, h1, h2]
  simp [asAddr, load_pt g1 x1 y1 W q0 q1]

def sx : ByteArray := ⟨#[120]⟩
def sy : ByteArray := ⟨#[121]⟩
/-- what a call of Get gives, as far as Point looks at it -/
def GetGives (g : FuncId) (w : World) (v : VC) (name : ByteArray) (k n : Int) : Prop :=
  ∀ W, Below w.heap.size w W → Calls Try.prog g #[v.val, .string name] W fun e w' => ∃ (x : VC) (ok : Bool), x.k = k ∧ x.n = n ∧ e = .returned (.tuple #[x.val, .bool ok]) ∧ Below W.heap.size W w'

inductive PSel (g : FuncId) (w : World) (v : VC) (k0 n0 k1 n1 : Int) : Prop where
  | list (a0 a1 : VC) (b off : Nat) (hk : v.k = 6) (hA : v.LA = some ⟨b, off, none⟩) (hl : v.ln = 2) (h0 : VAt w b off a0) (h1 : VAt w b (off + 5) a1) (e : k0 = a0.k ∧ n0 = a0.n ∧ k1 = a1.k ∧ n1 = a1.n)
  | doc (hk : v.k = 5) (hd : v.dn = 2) (hx : GetGives g w v sx k0 n0) (hy : GetGives g w v sy k1 n1)
  | none_ (h6 : v.k = 6 → v.ln ≠ 2) (h5 : v.k = 5 → v.dn ≠ 2) (e : k0 = 0 ∧ n0 = 0 ∧ k1 = 0 ∧ n1 = 0)

/-- the blocks of a call of Point behind its switch -/
def PInv (w : World) (k0 n0 k1 n1 : Int) (wr : World) : Prop :=
  ∃ x y : VC, x.k = k0 ∧ x.n = n0 ∧ y.k = k1 ∧ y.n = n1 ∧ Blk wr (w.heap.size + 1) 27 #[.int .i64 0, .int .i64 0] ∧ Blk wr (w.heap.size + 2) 25 x.arr ∧ Blk wr (w.heap.size + 3) 25 y.arr ∧ Below w.heap.size w wr

set_option maxHeartbeats 2000000 in
theorem point_any (v : VC) (k0 n0 k1 n1 : Int) (w : World) (hsel : PSel 26 w v k0 n0 k1 n1) :
    Calls Try.prog 10 #[v.val] w fun e w' => e = .returned (ptRes k0 n0 k1 n1) ∧ Below w.heap.size w w' := by
  obtain ⟨k, n, t, LA, ln, lc, DA, dn, dc⟩ := v
  go_enter Try.func10, Try.ntmps10
  go_upto_block 0 with fail
  go_cut [7, 25] (fun s7 s25 wx => PInv w k0 n0 k1 n1 wx)
  case first =>
    cases hsel with
    | list a0 a1 b off hk hA hl h0 h1 e =>
      simp only at hk hA hl
      obtain ⟨rfl, rfl, rfl, rfl⟩ := e
      subst hk hA hl
      have hb := h0.lt
      have hbk : b < w.heap.size + 1 ∧ b < w.heap.size + 2 ∧ b < w.heap.size + 3 := by omega
      obtain ⟨p0, p1, p2, p3, p4⟩ := h0
      obtain ⟨q0, q1, q2, q3, q4⟩ := h1
      go_upto_region 3 with fail
      go_region
      go_wp2_with fail
      go_meet
      exact ⟨a0, a1, rfl, rfl, rfl, rfl, ((Blk.new_at (by simp)).alloc _).alloc _, (Blk.new_at (by simp)).alloc _, Blk.new_at (by simp), (((((Below.refl _ _).alloc (by simp) _).alloc (by simp) _).alloc (by simp; omega) _).alloc (by simp; omega) _).drew⟩
    | doc hk hd hx hy =>
      simp only at hk hd
      subst hk hd
      have HX := Lib.hid hx
      have HY := Lib.hid hy
      clear hx hy
      go_wp2_with fail
      refine (HX.out _ ((((((Below.refl _ _).alloc (by simp) _).alloc (by simp) _).alloc (by simp; omega) _).alloc (by simp; omega) _))).mono ?_
      rintro e w1 ⟨x, ok, rfl, rfl, rfl, hb⟩
      obtain ⟨xk, xn, xt, xLA, xln, xlc, xDA, xdn, xdc⟩ := x
      have N0 : Blk w1 w.heap.size 25 (VC.arr ⟨5, n, t, LA, ln, lc, DA, 2, dc⟩) := ((((Blk.new_at (by simp)).alloc _).alloc _).alloc _).step hb
      have N1 : Blk w1 (w.heap.size + 1) 27 #[.int .i64 0, .int .i64 0] := (((Blk.new_at (by simp)).alloc _).alloc _).step hb
      have N2 : Blk w1 (w.heap.size + 2) 25 VC.zero.arr := ((Blk.new_at (by simp)).alloc _).step hb
      have N3 : Blk w1 (w.heap.size + 3) 25 VC.zero.arr := (Blk.new_at (by simp)).step hb
      have N4 : Below w.heap.size w w1 := (((((Below.refl _ _).alloc (by simp) _).alloc (by simp) _).alloc (by simp; omega) _).alloc (by simp; omega) _).trans (hb.mono (by simp; omega))
      obtain ⟨a0, a1, a2, a3, a4⟩ := VAt.of_blk N0
      obtain ⟨b0, b1, b2, b3, b4⟩ := VAt.of_blk N2
      have z := N2.frozen
      have J0 := Lib.hid N0
      have J1 := Lib.hid N1
      have J2 := Lib.hid N2
      have J3 := Lib.hid N3
      have J4 := Lib.hid N4
      clear N0 N1 N2 N3 N4 hb HX
      go_wp2_with fail
      refine (HY.out _ (below_setV J4.out (b := w.heap.size + 2) (by omega) 0 ⟨xk, xn, xt, xLA, xln, xlc, xDA, xdn, xdc⟩)).mono ?_
      rintro e w2 ⟨y, ok2, rfl, rfl, rfl, hb⟩
      obtain ⟨yk, yn, yt, yLA, yln, ylc, yDA, ydn, ydc⟩ := y
      have N1 := (J1.out.farV (b := w.heap.size + 2) (by omega) 0 ⟨xk, xn, xt, xLA, xln, xlc, xDA, xdn, xdc⟩).step hb
      have N2 := (J2.out.putV ⟨xk, xn, xt, xLA, xln, xlc, xDA, xdn, xdc⟩).step hb
      have N3 := (J3.out.farV (b := w.heap.size + 2) (by omega) 0 ⟨xk, xn, xt, xLA, xln, xlc, xDA, xdn, xdc⟩).step hb
      have N4 := (below_setV J4.out (b := w.heap.size + 2) (by omega) 0 ⟨xk, xn, xt, xLA, xln, xlc, xDA, xdn, xdc⟩).step' hb
      clear a0 a1 a2 a3 a4 b0 b1 b2 b3 b4 z hb J0 J1 J2 J3 J4
      obtain ⟨b0, b1, b2, b3, b4⟩ := VAt.of_blk N3
      have z := N3.frozen
      have J1 := Lib.hid N1
      have J2 := Lib.hid N2
      have J3 := Lib.hid N3
      have J4 := Lib.hid N4
      clear N1 N2 N3 N4
      go_wp2_with fail
      go_meet
      exact ⟨⟨xk, xn, xt, xLA, xln, xlc, xDA, xdn, xdc⟩, ⟨yk, yn, yt, yLA, yln, ylc, yDA, ydn, ydc⟩, rfl, rfl, rfl, rfl, J1.out.farV (b := w.heap.size + 3) (by omega) 0 ⟨yk, yn, yt, yLA, yln, ylc, yDA, ydn, ydc⟩, J2.out.farV (b := w.heap.size + 3) (by omega) 0 ⟨yk, yn, yt, yLA, yln, ylc, yDA, ydn, ydc⟩, J3.out.putV ⟨yk, yn, yt, yLA, yln, ylc, yDA, ydn, ydc⟩, below_setV J4.out (b := w.heap.size + 3) (by omega) 0 ⟨yk, yn, yt, yLA, yln, ylc, yDA, ydn, ydc⟩⟩
    | none_ h6 h5 e =>
      obtain ⟨rfl, rfl, rfl, rfl⟩ := e
      simp only at h6 h5
      cases e6 : (k == 6)
      · cases e5 : (k == 5)
        · clear h6 h5
          go_wp2_with fail
          go_meet
          exact ⟨VC.zero, VC.zero, rfl, rfl, rfl, rfl, ((Blk.new_at (by simp)).alloc _).alloc _, (Blk.new_at (by simp)).alloc _, Blk.new_at (by simp), (((((Below.refl _ _).alloc (by simp) _).alloc (by simp) _).alloc (by simp; omega) _).alloc (by simp; omega) _)⟩
        · have hd : ((dn : Int) == 2) = false := by have := h5 (by simpa using e5); simp; omega
          clear h6 h5
          go_wp2_with fail
          go_meet
          exact ⟨VC.zero, VC.zero, rfl, rfl, rfl, rfl, ((Blk.new_at (by simp)).alloc _).alloc _, (Blk.new_at (by simp)).alloc _, Blk.new_at (by simp), (((((Below.refl _ _).alloc (by simp) _).alloc (by simp) _).alloc (by simp; omega) _).alloc (by simp; omega) _)⟩
      · have hd : ((ln : Int) == 2) = false := by have := h6 (by simpa using e6); simp; omega
        have e5 : (k == 5) = false := by simp at e6; subst e6; rfl
        clear h6 h5
        go_wp2_with fail
        go_meet
        exact ⟨VC.zero, VC.zero, rfl, rfl, rfl, rfl, ((Blk.new_at (by simp)).alloc _).alloc _, (Blk.new_at (by simp)).alloc _, Blk.new_at (by simp), (((((Below.refl _ _).alloc (by simp) _).alloc (by simp) _).alloc (by simp; omega) _).alloc (by simp; omega) _)⟩
  case rest =>
    obtain ⟨x, y, rfl, rfl, rfl, rfl, N1, N2, N3, N4⟩ := hcut
    clear hsel
    obtain ⟨xk, xn, xt, xLA, xln, xlc, xDA, xdn, xdc⟩ := x
    obtain ⟨yk, yn, yt, yLA, yln, ylc, yDA, ydn, ydc⟩ := y
    obtain ⟨a0, a1, -, -, -⟩ := VAt.of_blk N2
    obtain ⟨b0, b1, -, -, -⟩ := VAt.of_blk N3
    have l1 := N1.lt
    have l2 := N2.lt
    have l3 := N3.lt
    have e0 := N1.cell 0
    have e1 := N1.cell 1
    have z := N1.frozen
    simp at a0 a1 b0 b1 e0 e1
    have J1 := Lib.hid N1
    have J4 := Lib.hid N4
    clear N1 N2 N3 N4
    cases hp : ptOk xk xn yk yn
    · have HR : Hid (ptRes xk xn yk yn = .tuple #[pt 0 0, .int .i64 18]) := by simp [ptRes, hp, Hid]
      cases ex : (xk != 3)
      · cases ey : (yk != 3)
        · have hq : pointB xn yn = false := by
            simp at ex ey
            simpa [ptOk, ex, ey] using hp
          clear hp
          go_wp2_with fail
          refine (isPoint_any _ _ _).mono ?_
          rintro e w1 ⟨rfl, hb⟩
          have N1 := (J1.out.alloc _).step hb
          have N4 := (J4.out.alloc J4.out.size _).step' hb
          clear a0 a1 b0 b1 e0 e1 z l1 l2 l3 hb
          have e0 := N1.cell 0
          have e1 := N1.cell 1
          have z := N1.frozen
          simp at e0 e1
          have J2 := Lib.hid N1
          have J5 := Lib.hid N4
          clear N1 N4
          go_wp2_with fail
          have q := ((J2.out.set_ 0 (.int .i64 0)).set_ 1 (.int .i64 0))
          have q0 := q.cell 0
          have q1 := q.cell 1
          refine bodyPost_ret (results_pt_err rfl _ _ rfl _ rfl _ _ _ q0 q1) rfl ⟨by rw [HR.out]; rfl, (J5.out.setCell (by show w.heap.size ≤ w.heap.size + 1; omega) _).setCell (by show w.heap.size ≤ w.heap.size + 1; omega) _⟩
        · clear hp
          go_wp2_with fail
          have q := ((J1.out.set_ 0 (.int .i64 0)).set_ 1 (.int .i64 0)).alloc (Obj.cells #[Value.int IntKind.i64 xn, Value.int IntKind.i64 yn] 27)
          have q0 := q.cell 0
          have q1 := q.cell 1
          refine bodyPost_ret (results_pt_err rfl _ _ rfl _ rfl _ _ _ q0 q1) rfl ⟨by rw [HR.out]; rfl, ((J4.out.setCell (p := ⟨w.heap.size + 1, 0, none⟩) (by show w.heap.size ≤ w.heap.size + 1; omega) _).setCell (p := ⟨w.heap.size + 1, 1, none⟩) (by show w.heap.size ≤ w.heap.size + 1; omega) _).alloc (by have := J4.out.size; simp [World.setCell]; omega) _⟩
      · clear hp
        go_wp2_with fail
        have q := ((J1.out.set_ 0 (.int .i64 0)).set_ 1 (.int .i64 0)).alloc (Obj.cells #[Value.int IntKind.i64 xn, Value.int IntKind.i64 yn] 27)
        have q0 := q.cell 0
        have q1 := q.cell 1
        refine bodyPost_ret (results_pt_err rfl _ _ rfl _ rfl _ _ _ q0 q1) rfl ⟨by rw [HR.out]; rfl, ((J4.out.setCell (p := ⟨w.heap.size + 1, 0, none⟩) (by show w.heap.size ≤ w.heap.size + 1; omega) _).setCell (p := ⟨w.heap.size + 1, 1, none⟩) (by show w.heap.size ≤ w.heap.size + 1; omega) _).alloc (by have := J4.out.size; simp [World.setCell]; omega) _⟩
    · have HR : Hid (ptRes xk xn yk yn = .tuple #[pt xn yn, .int .i64 0]) := by simp [ptRes, hp, Hid]
      have hq : xk = 3 ∧ yk = 3 ∧ pointB xn yn = true := by
        simp only [ptOk] at hp
        split at hp
        · split at hp <;> simp_all
        · simp at hp
      obtain ⟨rfl, rfl, hq⟩ := hq
      clear hp
      go_wp2_with fail
      refine (isPoint_any _ _ _).mono ?_
      rintro e w1 ⟨rfl, hb⟩
      have N1 := (J1.out.alloc _).step hb
      have N2 := (Blk.new wc 27 #[.int .i64 xn, .int .i64 yn]).step hb
      have N4 := (J4.out.alloc J4.out.size _).step' hb
      clear a0 a1 b0 b1 e0 e1 z l1 l2 l3 hb
      have e0 := N1.cell 0
      have e1 := N1.cell 1
      have e2 := N2.cell 0
      have e3 := N2.cell 1
      have z := N1.frozen
      simp at e0 e1 e2 e3
      have J2 := Lib.hid N1
      have J5 := Lib.hid N4
      clear N1 N2 N4
      go_wp2_with fail
      have q := ((J2.out.set_ 0 (.int .i64 xn)).set_ 1 (.int .i64 yn))
      have q0 := q.cell 0
      have q1 := q.cell 1
      refine bodyPost_ret (results_pt_err rfl _ _ rfl _ rfl _ _ _ q0 q1) rfl ⟨by rw [HR.out]; rfl, (J5.out.setCell (by show w.heap.size ≤ w.heap.size + 1; omega) _).setCell (by show w.heap.size ≤ w.heap.size + 1; omega) _⟩

end Go.Proofs.Ytefolbfopjfbcaa
