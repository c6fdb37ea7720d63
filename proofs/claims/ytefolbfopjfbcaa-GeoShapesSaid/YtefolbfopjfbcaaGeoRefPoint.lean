/- The contract of the reference's Point. -/
import Derived.Test.YtefolbfopjfbcaaGeoPoint
import Derived.Test.YtefolbfopjfbcaaGeoRefPure
namespace Go.Proofs.Ytefolbfopjfbcaa
open Go.RowKit

def isTwo (q k : Int) (n : Nat) : Bool := if k == q then ((n : Int) == 2) else false
theorem isTwo_no {q k : Int} {n : Nat} (h : k = q → n ≠ 2) : isTwo q k n = false := by
  unfold isTwo
  split
  · rename_i hq
    have := h (by simpa using hq)
    simp
    omega
  · rfl
/-- the blocks between the two tests of the reference's Point -/
def PMid (w : World) (v : VC) (k0 n0 k1 n1 : Int) (wr : World) : Prop :=
  (v.k ≠ 5 ∧ ∃ x y : VC, x.k = k0 ∧ x.n = n0 ∧ y.k = k1 ∧ y.n = n1 ∧ Blk wr w.heap.size 25 v.arr ∧ Blk wr (w.heap.size + 1) 27 #[.int .i64 0, .int .i64 0] ∧ Blk wr (w.heap.size + 2) 25 x.arr ∧ Blk wr (w.heap.size + 3) 25 y.arr ∧ Below w.heap.size w wr) ∨
  (Blk wr w.heap.size 25 v.arr ∧ Blk wr (w.heap.size + 1) 27 #[.int .i64 0, .int .i64 0] ∧ Blk wr (w.heap.size + 2) 25 VC.zero.arr ∧ Blk wr (w.heap.size + 3) 25 VC.zero.arr ∧ Below w.heap.size w wr ∧ isTwo 6 v.k v.ln = false)

set_option maxHeartbeats 2000000 in
theorem rpoint_any (v : VC) (k0 n0 k1 n1 : Int) (w : World) (hsel : PSel 28 w v k0 n0 k1 n1) :
    Calls Try.prog 11 #[v.val] w fun e w' => e = .returned (ptRes k0 n0 k1 n1) ∧ Below w.heap.size w w' := by
  obtain ⟨k, n, t, LA, ln, lc, DA, dn, dc⟩ := v
  go_enter Try.func11, Try.ntmps11
  go_upto_region 2 with fail
  go_cut [15] (fun s15 wx => s15 = .bool (isTwo 6 k ln) ∧ wx = (((w.alloc (Obj.cells (VC.arr ⟨k, n, t, LA, ln, lc, DA, dn, dc⟩) 25)).alloc (Obj.cells #[.int .i64 0, .int .i64 0] 27)).alloc (Obj.cells VC.zero.arr 25)).alloc (Obj.cells VC.zero.arr 25))
  case first =>
    cases e6 : (k == 6)
    all_goals (go_wp2_with fail; go_meet; refine ⟨congrArg Value.bool ?_, rfl⟩)
    all_goals (simp [isTwo, e6])
  case rest =>
  obtain ⟨rfl, rfl⟩ := hcut
  go_upto_if 15 with fail
  go_cut [] (fun wx => PMid w ⟨k, n, t, LA, ln, lc, DA, dn, dc⟩ k0 n0 k1 n1 wx)
  case first =>
    cases hsel with
    | list a0 a1 b off hk hA hl h0 h1 e =>
      simp only at hk hA hl
      obtain ⟨rfl, rfl, rfl, rfl⟩ := e
      subst hk hA hl
      have hb := h0.lt
      have hbk : b < w.heap.size + 1 ∧ b < w.heap.size + 2 ∧ b < w.heap.size + 3 := by omega
      obtain ⟨p0, p1, p2, p3, p4⟩ := h0
      obtain ⟨q0, q1, q2, q3, q4⟩ := h1
      have ht : isTwo 6 6 2 = true := by decide
      rw [ht]
      go_upto_region 3 with fail
      go_region
      go_wp2_with fail
      go_meet
      exact .inl ⟨(by show (6 : Int) ≠ 5; decide), a0, a1, rfl, rfl, rfl, rfl, (((Blk.new_at (by simp)).alloc _).alloc _).alloc _, ((Blk.new_at (by simp)).alloc _).alloc _, (Blk.new_at (by simp)).alloc _, Blk.new_at (by simp), (((((Below.refl _ _).alloc (by simp) _).alloc (by simp) _).alloc (by simp; omega) _).alloc (by simp; omega) _).drew⟩
    | doc hk hd hx hy =>
      simp only at hk hd
      subst hk hd
      clear hx hy
      have ht : isTwo 6 5 ln = false := by simp [isTwo]
      rw [ht]
      go_wp2_with fail
      go_meet
      exact .inr ⟨(((Blk.new_at (by simp)).alloc _).alloc _).alloc _, ((Blk.new_at (by simp)).alloc _).alloc _, (Blk.new_at (by simp)).alloc _, Blk.new_at (by simp), (((((Below.refl _ _).alloc (by simp) _).alloc (by simp) _).alloc (by simp; omega) _).alloc (by simp; omega) _), ht⟩
    | none_ h6 h5 e =>
      simp only at h6 h5
      have ht : isTwo 6 k ln = false := isTwo_no h6
      rw [ht]
      clear h6 h5
      have HT := Lib.hid ht
      clear ht
      go_wp2_with fail
      go_meet
      exact .inr ⟨(((Blk.new_at (by simp)).alloc _).alloc _).alloc _, ((Blk.new_at (by simp)).alloc _).alloc _, (Blk.new_at (by simp)).alloc _, Blk.new_at (by simp), (((((Below.refl _ _).alloc (by simp) _).alloc (by simp) _).alloc (by simp; omega) _).alloc (by simp; omega) _), HT.out⟩
  case rest =>
  go_upto_region 4 with fail
  go_cut [32] (fun s32 wx => s32 = .bool (isTwo 5 k dn) ∧ PMid w ⟨k, n, t, LA, ln, lc, DA, dn, dc⟩ k0 n0 k1 n1 wx)
  case first =>
    have b0 : Blk wc w.heap.size 25 (VC.arr ⟨k, n, t, LA, ln, lc, DA, dn, dc⟩) := by
      rcases hcut with ⟨_, x, y, _, _, _, _, h, _⟩ | ⟨h, _⟩ <;> exact h
    have e0 := b0.cell 0
    have e4 := b0.cell 4
    simp at e0 e4
    have HC := Lib.hid hcut
    clear hcut b0
    cases e5 : (k == 5)
    all_goals (go_wp2_with fail; go_meet; refine ⟨congrArg Value.bool ?_, HC.out⟩)
    all_goals (simp [isTwo, e5])
  case rest =>
  obtain ⟨rfl, hm⟩ := hcut
  go_upto_if 32 with fail
  go_cut [] (fun wx => PInv w k0 n0 k1 n1 wx)
  case first =>
    cases hsel with
    | list a0 a1 b off hk hA hl h0 h1 e =>
      simp only at hk hA hl
      subst hk
      have ht : isTwo 5 6 dn = false := by simp [isTwo]
      rw [ht]
      have HM := Lib.hid hm
      clear hm h0 h1
      go_wp2_with fail
      go_meet
      rcases HM.out with ⟨_, x, y, h1, h2, h3, h4, _, h5, h6, h7, h8⟩ | ⟨_, h5, h6, h7, h8, h9⟩
      · exact ⟨x, y, h1, h2, h3, h4, h5, h6, h7, h8⟩
      · subst hl; exact absurd h9 (by simp [isTwo])
    | doc hk hd hx hy =>
      simp only at hk hd
      subst hk hd
      have ht : isTwo 5 5 2 = true := by decide
      rw [ht]
      have HX := Lib.hid hx
      have HY := Lib.hid hy
      clear hx hy ht
      rcases hm with ⟨hne, _⟩ | ⟨N0, N1, N2, N3, N4, _⟩
      · exact absurd rfl hne
      obtain ⟨a0, a1, a2, a3, a4⟩ := VAt.of_blk N0
      obtain ⟨b0, b1, b2, b3, b4⟩ := VAt.of_blk N2
      have z := N2.frozen
      have J0 := Lib.hid N0
      have J1 := Lib.hid N1
      have J2 := Lib.hid N2
      have J3 := Lib.hid N3
      have J4 := Lib.hid N4
      clear N0 N1 N2 N3 N4
      go_wp2_with fail
      refine (HX.out _ J4.out).mono ?_
      rintro e w1 ⟨x, ok, rfl, rfl, rfl, hb⟩
      obtain ⟨xk, xn, xt, xLA, xln, xlc, xDA, xdn, xdc⟩ := x
      have N0 := J0.out.step hb
      have N1 := J1.out.step hb
      have N2 := J2.out.step hb
      have N3 := J3.out.step hb
      have N4 := J4.out.step' hb
      clear a0 a1 a2 a3 a4 b0 b1 b2 b3 b4 z hb J0 J1 J2 J3 J4 HX
      obtain ⟨a0, a1, a2, a3, a4⟩ := VAt.of_blk N0
      obtain ⟨b0, b1, b2, b3, b4⟩ := VAt.of_blk N2
      have z := N2.frozen
      have J1 := Lib.hid N1
      have J2 := Lib.hid N2
      have J3 := Lib.hid N3
      have J4 := Lib.hid N4
      clear N0 N1 N2 N3 N4
      go_wp2_with fail
      refine (HY.out _ (below_setV J4.out (b := w.heap.size + 2) (by omega) 0 ⟨xk, xn, xt, xLA, xln, xlc, xDA, xdn, xdc⟩)).mono ?_
      rintro e w2 ⟨y, ok2, rfl, rfl, rfl, hb⟩
      obtain ⟨yk, yn, yt, yLA, yln, ylc, yDA, ydn, ydc⟩ := y
      have N1 := (J1.out.farV (b := w.heap.size + 2) (by omega) 0 ⟨xk, xn, xt, xLA, xln, xlc, xDA, xdn, xdc⟩).step hb
      have N2 := (J2.out.putV ⟨xk, xn, xt, xLA, xln, xlc, xDA, xdn, xdc⟩).step hb
      have N3 := (J3.out.farV (b := w.heap.size + 2) (by omega) 0 ⟨xk, xn, xt, xLA, xln, xlc, xDA, xdn, xdc⟩).step hb
      have N4 := (below_setV J4.out (b := w.heap.size + 2) (by omega) 0 ⟨xk, xn, xt, xLA, xln, xlc, xDA, xdn, xdc⟩).step' hb
      clear a0 a1 a2 a3 a4 b0 b1 b2 b3 b4 z hb J1 J2 J3 J4
      obtain ⟨b0, b1, b2, b3, b4⟩ := VAt.of_blk N3
      have z := N3.frozen
      have J1 := Lib.hid N1
      have J2 := Lib.hid N2
      have J3 := Lib.hid N3
      have J4 := Lib.hid N4
      clear N1 N2 N3 N4
      go_wp2_with fail
      go_meet
      exact ⟨⟨xk, xn, xt, xLA, xln, xlc, xDA, xdn, xdc⟩, ⟨yk, yn, yt, yLA, yln, ylc, yDA, ydn, ydc⟩, rfl, rfl, rfl, rfl, J1.out.farV (b := w.heap.size + 3) (by omega) 0 ⟨yk, yn, yt, yLA, yln, ylc, yDA, ydn, ydc⟩, J2.out.farV (b := w.heap.size + 3) (by omega) 0 ⟨yk, yn, yt, yLA, yln, ylc, yDA, ydn, ydc⟩, J3.out.putV ⟨yk, yn, yt, yLA, yln, ylc, yDA, ydn, ydc⟩, below_setV J4.out (b := w.heap.size + 3) (by omega) 0 ⟨yk, yn, yt, yLA, yln, ylc, yDA, ydn, ydc⟩⟩
    | none_ h6 h5 e =>
      simp only at h6 h5
      obtain ⟨rfl, rfl, rfl, rfl⟩ := e
      have ht : isTwo 5 k dn = false := isTwo_no h5
      rw [ht]
      have HM := Lib.hid hm
      clear hm h6 h5 ht
      go_wp2_with fail
      go_meet
      rcases HM.out with ⟨_, x, y, h1, h2, h3, h4, _, h5, h6, h7, h8⟩ | ⟨_, h5, h6, h7, h8, _⟩
      · exact ⟨x, y, h1, h2, h3, h4, h5, h6, h7, h8⟩
      · exact ⟨VC.zero, VC.zero, rfl, rfl, rfl, rfl, h5, h6, h7, h8⟩
  case rest =>
    obtain ⟨x, y, rfl, rfl, rfl, rfl, N1, N2, N3, N4⟩ := hcut
    clear hsel
    obtain ⟨xk, xn, xt, xLA, xln, xlc, xDA, xdn, xdc⟩ := x
    obtain ⟨yk, yn, yt, yLA, yln, ylc, yDA, ydn, ydc⟩ := y
    obtain ⟨a0, a1, -, -, -⟩ := VAt.of_blk N2
    obtain ⟨b0, b1, -, -, -⟩ := VAt.of_blk N3
    have l1 := N1.lt
    have l2 := N2.lt
    have l3 := N3.lt
    have e0 := N1.cell 0
    have e1 := N1.cell 1
    have z := N1.frozen
    simp at a0 a1 b0 b1 e0 e1
    have J1 := Lib.hid N1
    have J4 := Lib.hid N4
    clear N1 N2 N3 N4
    cases hp : ptOk xk xn yk yn
    · have HR : Hid (ptRes xk xn yk yn = .tuple #[pt 0 0, .int .i64 18]) := by simp [ptRes, hp, Hid]
      cases ex : (xk != 3)
      · cases ey : (yk != 3)
        · have hq : pointB xn yn = false := by
            simp at ex ey
            simpa [ptOk, ex, ey] using hp
          clear hp
          go_wp2_with fail
          refine (ris_any _ _ _).mono ?_
          rintro e w1 ⟨rfl, hb⟩
          have N1 := (J1.out.alloc _).step hb
          have N4 := (J4.out.alloc J4.out.size _).step' hb
          clear a0 a1 b0 b1 e0 e1 z l1 l2 l3 hb
          have e0 := N1.cell 0
          have e1 := N1.cell 1
          have z := N1.frozen
          simp at e0 e1
          have J2 := Lib.hid N1
          have J5 := Lib.hid N4
          clear N1 N4
          go_wp2_with fail
          have q := ((J2.out.set_ 0 (.int .i64 0)).set_ 1 (.int .i64 0))
          have q0 := q.cell 0
          have q1 := q.cell 1
          refine bodyPost_ret (results_pt_err rfl _ _ rfl _ rfl _ _ _ q0 q1) rfl ⟨by rw [HR.out]; rfl, (J5.out.setCell (by show w.heap.size ≤ w.heap.size + 1; omega) _).setCell (by show w.heap.size ≤ w.heap.size + 1; omega) _⟩
        · clear hp
          go_wp2_with fail
          have q := ((J1.out.set_ 0 (.int .i64 0)).set_ 1 (.int .i64 0)).alloc (Obj.cells #[Value.int IntKind.i64 xn, Value.int IntKind.i64 yn] 27)
          have q0 := q.cell 0
          have q1 := q.cell 1
          refine bodyPost_ret (results_pt_err rfl _ _ rfl _ rfl _ _ _ q0 q1) rfl ⟨by rw [HR.out]; rfl, ((J4.out.setCell (p := ⟨w.heap.size + 1, 0, none⟩) (by show w.heap.size ≤ w.heap.size + 1; omega) _).setCell (p := ⟨w.heap.size + 1, 1, none⟩) (by show w.heap.size ≤ w.heap.size + 1; omega) _).alloc (by have := J4.out.size; simp [World.setCell]; omega) _⟩
      · clear hp
        go_wp2_with fail
        have q := ((J1.out.set_ 0 (.int .i64 0)).set_ 1 (.int .i64 0)).alloc (Obj.cells #[Value.int IntKind.i64 xn, Value.int IntKind.i64 yn] 27)
        have q0 := q.cell 0
        have q1 := q.cell 1
        refine bodyPost_ret (results_pt_err rfl _ _ rfl _ rfl _ _ _ q0 q1) rfl ⟨by rw [HR.out]; rfl, ((J4.out.setCell (p := ⟨w.heap.size + 1, 0, none⟩) (by show w.heap.size ≤ w.heap.size + 1; omega) _).setCell (p := ⟨w.heap.size + 1, 1, none⟩) (by show w.heap.size ≤ w.heap.size + 1; omega) _).alloc (by have := J4.out.size; simp [World.setCell]; omega) _⟩
    · have HR : Hid (ptRes xk xn yk yn = .tuple #[pt xn yn, .int .i64 0]) := by simp [ptRes, hp, Hid]
      have hq : xk = 3 ∧ yk = 3 ∧ pointB xn yn = true := by
        simp only [ptOk] at hp
        split at hp
        · split at hp <;> simp_all
        · simp at hp
      obtain ⟨rfl, rfl, hq⟩ := hq
      clear hp
      go_wp2_with fail
      refine (ris_any _ _ _).mono ?_
      rintro e w1 ⟨rfl, hb⟩
      have N1 := (J1.out.alloc _).step hb
      have N2 := (Blk.new wc 27 #[.int .i64 xn, .int .i64 yn]).step hb
      have N4 := (J4.out.alloc J4.out.size _).step' hb
      clear a0 a1 b0 b1 e0 e1 z l1 l2 l3 hb
      have e0 := N1.cell 0
      have e1 := N1.cell 1
      have e2 := N2.cell 0
      have e3 := N2.cell 1
      have z := N1.frozen
      simp at e0 e1 e2 e3
      have J2 := Lib.hid N1
      have J5 := Lib.hid N4
      clear N1 N2 N4
      go_wp2_with fail
      have q := ((J2.out.set_ 0 (.int .i64 xn)).set_ 1 (.int .i64 yn))
      have q0 := q.cell 0
      have q1 := q.cell 1
      refine bodyPost_ret (results_pt_err rfl _ _ rfl _ rfl _ _ _ q0 q1) rfl ⟨by rw [HR.out]; rfl, (J5.out.setCell (by show w.heap.size ≤ w.heap.size + 1; omega) _).setCell (by show w.heap.size ≤ w.heap.size + 1; omega) _⟩

end Go.Proofs.Ytefolbfopjfbcaa
