/- The walk of the law ValueFields. -/
import Derived.Test.YtckeccfbadlhhaaDoorValAwake
import Derived.Test.YtckeccfbadlhhaaDoorValRefRemove
import Derived.Test.YtckeccfbadlhhaaDoorValSame
import Derived.Test.YtckeccfbadlhhaaDoorValOpen
namespace Go.Proofs.YtckeccfbadlhhaaDoor
open Go.RowKit

theorem rsame_eq (x : Val) (c d : VC) (w : World) (h : RW w c x) (h' : RW w d x) : Calls Tryd.prog 21 #[c.val, d.val] w fun e w' => e = .returned (.bool true) ∧ Below w.heap.size w w' := by
  refine (rsame_any x x c d w h h').mono ?_
  rintro e w' ⟨rfl, hb⟩
  rw [sameV_true rfl]
  exact ⟨rfl, hb⟩
end Go.Proofs.YtckeccfbadlhhaaDoor
namespace Go.RowKit
theorem Below.kc {w w' : World} (hb : Below w.heap.size w w') {a : Addr} {v : Value} (h : w.cell? a = some v) : w'.cell? a = some v := (hb.cell (World.block_lt_of_cell? w a h)).trans h
end Go.RowKit
namespace Go.Proofs.YtckeccfbadlhhaaDoor
open Go.RowKit

/-- the four boxes of ValueFields -/
structure FdI (w : World) (c e cx cy : VC) (g7 g9 : Nat) (wr : World) : Prop where
  b0 : Blk wr w.heap.size 25 c.arr
  b1 : Blk wr (w.heap.size + 1) 25 e.arr
  b7 : Blk wr g7 25 cx.arr
  b9 : Blk wr g9 25 cy.arr
  bel : Below w.heap.size w wr

set_option maxRecDepth 100000 in
set_option maxHeartbeats 4000000 in
theorem valueFields_walk (c : VC) (x : Val) (name : ByteArray) (e : VC) (v : Val) (w : World) (hT : Tabs w) (h : RW w c x) (hd : x.d.length * 96 ≤ reach0) (hn0 : name.size ≤ reach0) (he : RW w e v) :
    Calls Tryd.prog 8 #[c.val, .string name, e.val] w fun e w' => e = .returned (.bool true) ∧ Below w.heap.size w w' := by
  have hn : name.size ≤ reach := Nat.le_trans hn0 le_reach
  have hbig : (x.d.length + 1) * 96 ≤ reach := by unfold reach0 at hd; unfold reach; omega
  have HT := Lib.hid hT
  have H := Lib.hid h
  have HE := Lib.hid he
  have HN := Lib.hid hn
  have HBg := Lib.hid hbig
  clear h hT he hn hbig hd hn0
  have A2 := Lib.hid (((Below.refl w.heap.size w).alloc (Nat.le_refl _) (Obj.cells c.arr 25)).alloc (by simp) (Obj.cells e.arr 25))
  have B0 : Hid (Blk ((w.alloc (Obj.cells c.arr 25)).alloc (Obj.cells e.arr 25)) w.heap.size 25 c.arr) := (Blk.new_at rfl).alloc _
  have B1 : Hid (Blk ((w.alloc (Obj.cells c.arr 25)).alloc (Obj.cells e.arr 25)) (w.heap.size + 1) 25 e.arr) := Blk.new_at (by simp)
  go_enter Tryd.func8, Tryd.ntmps8
  go_wp2_with fail
  refine (get_any x c name _ (H.out.step A2.out)).mono ?_
  rintro e1 w1 ⟨cx, rfl, hrx, hb1⟩
  have hx1 := hrx.mono (G := fun _ => True) fun _ _ => trivial
  have Z1 := Lib.hid (A2.out.step' hb1)
  have c0 := B0.out.step hb1
  have c1 := B1.out.step hb1
  have C0 := Lib.hid c0
  have C1 := Lib.hid c1
  have HX := Lib.hid hx1
  clear hrx hb1 A2 B0 B1 hx1
  obtain ⟨a0, a1, a2, a3, a4⟩ := VAt.of_blk c0
  have l0 := c0.lt
  have l1 := c1.lt
  clear c0 c1
  go_wp2_with fail
  have A3 := Lib.hid ((Below.refl w1.heap.size w1).alloc (Nat.le_refl _) (Obj.cells cx.arr 25))
  refine (rget_any x c name _ (H.out.step (Z1.out.step' A3.out))).mono ?_
  rintro e2 w2 ⟨cy, rfl, hry, hb2⟩
  have Z2 := Lib.hid ((Z1.out.step' A3.out).step' hb2)
  have I : Hid (FdI w c e cx cy w1.heap.size w2.heap.size (w2.alloc (Obj.cells cy.arr 25))) :=
    Lib.hid ⟨((C0.out.step A3.out).step hb2).alloc _, ((C1.out.step A3.out).step hb2).alloc _, ((Blk.new_at rfl).step hb2).alloc _, Blk.new_at rfl, Z2.out.alloc Z2.out.size _⟩
  have RX := Lib.hid (((HX.out.step A3.out).step hb2).alloc (Obj.cells cy.arr 25))
  have RY := Lib.hid (hry.alloc (Obj.cells cy.arr 25))
  clear hry hb2 A3 Z1 C0 C1 HX Z2 a0 a1 a2 a3 a4 l0 l1
  go_upto_region 3 with fail
  generalize w2.alloc (Obj.cells cy.arr 25) = w3 at *
  generalize w1.heap.size = g7 at *
  generalize w2.heap.size = g9 at *
  obtain ⟨a0, a1, a2, a3, a4⟩ := VAt.of_blk I.out.b0
  obtain ⟨b0, b1, b2, b3, b4⟩ := VAt.of_blk I.out.b1
  obtain ⟨c0, c1, c2, c3, c4⟩ := VAt.of_blk I.out.b7
  obtain ⟨d0, d1, d2, d3, d4⟩ := VAt.of_blk I.out.b9
  simp only [Nat.zero_add] at a1 a2 a3 a4 b1 b2 b3 b4 c1 c2 c3 c4 d1 d2 d3 d4
  have RC := Lib.hid (H.out.step I.out.bel)
  have RE := Lib.hid (HE.out.step I.out.bel)
  have RT := Lib.hid (HT.out.step I.out.bel)
  have B := Lib.hid ((Below.refl w3.heap.size w3).drewN 1)
  have KS : Hid (∀ w', Below w3.heap.size w3 w' → w'.cell? ⟨w.heap.size, 0, none⟩ = some (.int .i64 c.k) ∧ w'.cell? ⟨w.heap.size, 1, none⟩ = some (.int .i64 c.n) ∧ w'.cell? ⟨w.heap.size, 2, none⟩ = some (.string c.t) ∧ w'.cell? ⟨w.heap.size, 3, none⟩ = some (.slice c.LA c.ln c.lc) ∧ w'.cell? ⟨w.heap.size, 4, none⟩ = some (.slice c.DA c.dn c.dc) ∧ w'.cell? ⟨w.heap.size + 1, 0, none⟩ = some (.int .i64 e.k) ∧ w'.cell? ⟨w.heap.size + 1, 1, none⟩ = some (.int .i64 e.n) ∧ w'.cell? ⟨w.heap.size + 1, 2, none⟩ = some (.string e.t) ∧ w'.cell? ⟨w.heap.size + 1, 3, none⟩ = some (.slice e.LA e.ln e.lc) ∧ w'.cell? ⟨w.heap.size + 1, 4, none⟩ = some (.slice e.DA e.dn e.dc) ∧ w'.cell? ⟨g7, 0, none⟩ = some (.int .i64 cx.k) ∧ w'.cell? ⟨g7, 1, none⟩ = some (.int .i64 cx.n) ∧ w'.cell? ⟨g7, 2, none⟩ = some (.string cx.t) ∧ w'.cell? ⟨g7, 3, none⟩ = some (.slice cx.LA cx.ln cx.lc) ∧ w'.cell? ⟨g7, 4, none⟩ = some (.slice cx.DA cx.dn cx.dc) ∧ w'.cell? ⟨g9, 0, none⟩ = some (.int .i64 cy.k) ∧ w'.cell? ⟨g9, 1, none⟩ = some (.int .i64 cy.n) ∧ w'.cell? ⟨g9, 2, none⟩ = some (.string cy.t) ∧ w'.cell? ⟨g9, 3, none⟩ = some (.slice cy.LA cy.ln cy.lc) ∧ w'.cell? ⟨g9, 4, none⟩ = some (.slice cy.DA cy.dn cy.dc)) := Lib.hid fun w' hb => ⟨hb.kc a0, hb.kc a1, hb.kc a2, hb.kc a3, hb.kc a4, hb.kc b0, hb.kc b1, hb.kc b2, hb.kc b3, hb.kc b4, hb.kc c0, hb.kc c1, hb.kc c2, hb.kc c3, hb.kc c4, hb.kc d0, hb.kc d1, hb.kc d2, hb.kc d3, hb.kc d4⟩
  go_region_held3 (fun w' => w'.cell? ⟨w.heap.size, 0, none⟩ = some (.int .i64 c.k) ∧ w'.cell? ⟨w.heap.size, 1, none⟩ = some (.int .i64 c.n) ∧ w'.cell? ⟨w.heap.size, 2, none⟩ = some (.string c.t) ∧ w'.cell? ⟨w.heap.size, 3, none⟩ = some (.slice c.LA c.ln c.lc) ∧ w'.cell? ⟨w.heap.size, 4, none⟩ = some (.slice c.DA c.dn c.dc) ∧ w'.cell? ⟨w.heap.size + 1, 0, none⟩ = some (.int .i64 e.k) ∧ w'.cell? ⟨w.heap.size + 1, 1, none⟩ = some (.int .i64 e.n) ∧ w'.cell? ⟨w.heap.size + 1, 2, none⟩ = some (.string e.t) ∧ w'.cell? ⟨w.heap.size + 1, 3, none⟩ = some (.slice e.LA e.ln e.lc) ∧ w'.cell? ⟨w.heap.size + 1, 4, none⟩ = some (.slice e.DA e.dn e.dc) ∧ w'.cell? ⟨g7, 0, none⟩ = some (.int .i64 cx.k) ∧ w'.cell? ⟨g7, 1, none⟩ = some (.int .i64 cx.n) ∧ w'.cell? ⟨g7, 2, none⟩ = some (.string cx.t) ∧ w'.cell? ⟨g7, 3, none⟩ = some (.slice cx.LA cx.ln cx.lc) ∧ w'.cell? ⟨g7, 4, none⟩ = some (.slice cx.DA cx.dn cx.dc) ∧ w'.cell? ⟨g9, 0, none⟩ = some (.int .i64 cy.k) ∧ w'.cell? ⟨g9, 1, none⟩ = some (.int .i64 cy.n) ∧ w'.cell? ⟨g9, 2, none⟩ = some (.string cy.t) ∧ w'.cell? ⟨g9, 3, none⟩ = some (.slice cy.LA cy.ln cy.lc) ∧ w'.cell? ⟨g9, 4, none⟩ = some (.slice cy.DA cy.dn cy.dc))
    (first | exact KS.out _ B.out | go_keep)
    (first
      | (go_at_call 21; refine (rsame_eq _ cx cy _ (RX.out.step B.out) (RY.out.step B.out)).mono ?_; rintro e3 w4 ⟨rfl, hb⟩; replace B := Lib.hid (B.out.step' hb); clear hb RX RY)
      | (go_at_call 28; refine (set_any x v c e name _ (RC.out.step B.out) (RE.out.step B.out) HN.out HBg.out).mono ?_; rintro e3 w5 ⟨ca, rfl, hra, hb⟩; replace B := Lib.hid (B.out.step' hb); have B5 := B; have RA := Lib.hid (hra.mono (G := fun _ => True) fun _ _ => trivial); clear hb hra)
      | (go_at_call 29; refine (rset_any x v c e name _ (RC.out.step B.out) (RE.out.step B.out) HN.out HBg.out).mono ?_; rintro e3 w6 ⟨cb, rfl, hrb, hb⟩; replace RA := Lib.hid (RA.out.step hb); replace B := Lib.hid (B.out.step' hb); have RB := Lib.hid hrb; clear hb hrb)
      | (go_at_call 21; refine (rsame_eq _ ca cb _ RA.out RB.out).mono ?_; rintro e3 w7 ⟨rfl, hb⟩; replace B := Lib.hid (B.out.step' hb); clear hb RA RB)
      | (go_at_call 30; refine (remove_any x c name _ (RC.out.step B.out)).mono ?_; rintro e3 w8 ⟨cp, rfl, hra, hb⟩; replace B := Lib.hid (B.out.step' hb); have RP := Lib.hid (hra.mono (G := fun _ => True) fun _ _ => trivial); clear hb hra)
      | (go_at_call 31; refine (rremove_any x c name _ (RC.out.step B.out)).mono ?_; rintro e3 w9 ⟨cq, rfl, hrb, hb⟩; replace RP := Lib.hid (RP.out.step hb); replace B := Lib.hid (B.out.step' hb); have RQ := Lib.hid hrb; clear hb hrb)
      | (go_at_call 21; refine (rsame_eq _ cp cq _ RP.out RQ.out).mono ?_; rintro e3 w10 ⟨rfl, hb⟩; replace B := Lib.hid (B.out.step' hb); clear hb RP RQ)
      | (go_at_call 17; refine (awake_any _ (RT.out.step B.out)).mono ?_; rintro e3 w11 ⟨rfl, hb⟩; replace B := Lib.hid (B.out.step' hb); clear hb))
  all_goals
    go_wp2_with fail
    go_ret
    exact ⟨rfl, I.out.bel.step' B.out⟩

end Go.Proofs.YtckeccfbadlhhaaDoor
