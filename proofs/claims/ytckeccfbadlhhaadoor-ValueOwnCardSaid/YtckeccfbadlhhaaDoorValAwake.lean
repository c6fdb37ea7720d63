/- The contract of docstorelaw01.awake. -/
import Derived.Test.YtckeccfbadlhhaaDoorValSet
import Derived.Test.YtckeccfbadlhhaaDoorValSort
import Derived.Test.YtckeccfbadlhhaaDoorValSound
namespace Go.Proofs.YtckeccfbadlhhaaDoor
open Go.RowKit

def bA : ByteArray := ⟨#[97]⟩
def vOne : Val := .mk 3 1 ByteArray.empty [] []
def vText : Val := .mk 4 0 bA [] []
def vDoc : Val := .mk 5 0 ByteArray.empty [] []
def vD : Val := .mk 5 0 ByteArray.empty [] [.mk bA vOne]
abbrev leafC (k n : Int) (t : ByteArray) : VC := ⟨k, n, t, none, 0, 0, none, 0, 0⟩
theorem RV.leaf {F : Nat → Prop} {w : World} (k n : Int) (t : ByteArray) (ht : t.size ≤ reach) : RV F w (leafC k n t) (.mk k n t [] []) :=
  RVs.shut ⟨rfl, rfl, rfl, ht, rfl, Nat.le_refl _, by show 0 * 80 ≤ reach; decide, fun h => absurd h (by show ¬ 0 < 0; omega), rfl, Nat.le_refl _, by show 0 * 96 ≤ reach; decide, fun h => absurd h (by show ¬ 0 < 0; omega)⟩
theorem find_doc : findI vDoc bA = -1 := by decide
theorem add_doc : addV vDoc bA vOne = vD := rfl
theorem get_d : getV vD bA = some vOne := by simp [getV, findI, findFrom, vD, Val.k, Val.d, Fld.s, Fld.v]
theorem cmp_one_text : cmpV vOne vText = -1 := by rw [cmpV_kind (by decide)]; decide
theorem cmp_one : cmpV vOne vOne = 0 := cmpV_self _
theorem nodes_d : nodesV vD = 2 := by
  have : vD.size = 2 := by simp [vD, vOne, Val.size, sizeD, sizeF]
  unfold nodesV nodesI
  omega
theorem depth_d : depthV vD = 2 := by
  have : vD.height = 2 := by simp [vD, vOne, Val.height, heightD, heightF]
  unfold depthV depthI
  omega
theorem valid_d : validV vD = true := by
  have h1 : vD.size = 2 := by simp [vD, vOne, Val.size, sizeD, sizeF]
  have h2 : vD.height = 2 := by simp [vD, vOne, Val.height, heightD, heightF]
  have h3 : SoundV nameB vOne := (SoundV_iff _ _).2 ⟨⟨.inl rfl, .inr (.inr (.inr rfl)), .inr rfl, .inr rfl, .inr (.inr (.inr (.inl rfl)))⟩, by simp [vOne, Val.l], by simp [vOne, Val.d], by simp [vOne, Val.d, NamesP]⟩
  have h4 : SoundV nameB vD := (SoundV_iff _ _).2 ⟨⟨.inr (.inr (.inr rfl)), .inr (.inr (.inr rfl)), .inr rfl, .inl rfl, by simp [vD, Val.k]⟩, by simp [vD, Val.l], by intro f hf; simp [vD, Val.d] at hf; subst hf; exact h3, by
    refine ⟨fun f hf => ?_, by simp [vD, Val.d]⟩
    simp [vD, Val.d] at hf
    subst hf
    decide⟩
  unfold validV
  rw [decide_eq_true (by omega), decide_eq_true (by omega), soundB_true h4]
  rfl
theorem valid_zero : validV Val.zero = false := by
  have : soundB nameB Val.zero = false := sound_not (by rintro ⟨_, _, _, _, h5⟩; simp [Val.zero, Val.k] at h5)
  unfold validV
  rw [this, Bool.and_false]
theorem sort_two {m : List Val} (h : StV [vText, vOne] m) : m = [vOne, vText] := by
  refine h.unique ⟨[(vOne, 1), (vText, 0)], ⟨List.Perm.swap _ _ _, ?_⟩, rfl⟩
  simp only [List.pairwise_cons, List.mem_singleton, List.not_mem_nil, false_imp_iff, implies_true, List.Pairwise.nil, and_true]
  rintro y rfl
  exact .inl (by show cmpV vOne vText < 0; rw [cmp_one_text]; omega)

theorem rint_any (n : Int) (w : World) : Calls Tryd.prog 40 #[.int .i64 n] w fun e w' => e = .returned (leafC 3 n ByteArray.empty).val ∧ Below w.heap.size w w' := by
  go_enter Tryd.func40, Tryd.ntmps40
  go_wp2_with fail
  exact bodyPost_ret (results_val rfl _ _ _ rfl _ (leafC 3 n ByteArray.empty) (VAt.of_blk (Blk.new _ _ _))) rfl ⟨rfl, (Below.refl _ _).alloc (Nat.le_refl _) _⟩
theorem rtext_any (s : ByteArray) (w : World) : Calls Tryd.prog 41 #[.string s] w fun e w' => e = .returned (leafC 4 0 s).val ∧ Below w.heap.size w w' := by
  go_enter Tryd.func41, Tryd.ntmps41
  go_wp2_with fail
  exact bodyPost_ret (results_val rfl _ _ _ rfl _ (leafC 4 0 s) (VAt.of_blk (Blk.new _ _ _))) rfl ⟨rfl, (Below.refl _ _).alloc (Nat.le_refl _) _⟩
theorem equal_any (x y : Val) (c d : VC) (w : World) (h : RW w c x) (h' : RW w d y) : Calls Tryd.prog 20 #[c.val, d.val] w fun e w' => e = .returned (.bool (cmpV x y == 0)) ∧ Below w.heap.size w w' := by
  have H := Lib.hid h
  have H' := Lib.hid h'
  clear h h'
  go_enter Tryd.func20, Tryd.ntmps20
  go_wp2_with fail
  refine (cmp_any x y c d _ ((H.out.alloc _).alloc _) ((H'.out.alloc _).alloc _)).mono ?_
  rintro e w1 ⟨rfl, hb⟩
  go_wp2_with fail
  go_ret
  exact ⟨rfl, (((Below.refl _ _).alloc (Nat.le_refl _) _).alloc (by simp) _).step' hb⟩

/-- the four boxes of awake -/
structure AwI (w : World) (g1 g2 : Nat) (wr : World) : Prop where
  b1 : Blk wr g1 25 (leafC 3 1 ByteArray.empty).arr
  b2 : Blk wr g2 25 (leafC 4 0 bA).arr
  bel : Below w.heap.size w wr
theorem AwI.step {w : World} {g1 g2 : Nat} {wr w' : World} (h : AwI w g1 g2 wr) (hb : Below wr.heap.size wr w') : AwI w g1 g2 w' := ⟨h.b1.step hb, h.b2.step hb, h.bel.step' hb⟩
theorem rw_one (w : World) : RW w (leafC 3 1 ByteArray.empty) vOne := RV.leaf 3 1 _ (by decide)
theorem rw_text (w : World) : RW w (leafC 4 0 bA) vText := RV.leaf 4 0 _ (by decide)
theorem rw_doc (w : World) : RW w (leafC 5 0 ⟨#[]⟩) vDoc := RV.leaf 5 0 _ (by decide)
theorem rw_zero (w : World) : RW w (leafC 0 0 ⟨#[]⟩) Val.zero := RV.leaf 0 0 _ (by decide)

theorem sl_two {w : World} {g : Nat} (h : Blk w g 25 #[.int .i64 4, .int .i64 0, .string bA, .slice none 0 0, .slice none 0 0, .int .i64 3, .int .i64 1, .string ByteArray.empty, .slice none 0 0, .slice none 0 0]) :
    SL (fun _ => True) w (some ⟨g, 0, none⟩) 2 2 [(leafC 4 0 bA, vText), (leafC 3 1 ByteArray.empty, vOne)] := by
  refine ⟨⟨rfl, Nat.le_refl _, fun _ => ⟨g, 0, rfl, h.lt, fun i a hi j v hj => ?_⟩⟩, by decide, fun _ => ⟨_, _, rfl, Ft.top⟩, fun p hp => ?_⟩
  · rw [Nat.zero_add, h.cell, ← Array.getElem?_toList]
    exact flat_get (rec := recV) recV_length hi hj
  · simp at hp
    rcases hp with rfl | rfl
    · exact rw_text w
    · exact rw_one w
theorem two_of {ps : List PV} {a b : Val} (h : ps.map Prod.snd = [a, b]) : ∃ p q, ps = [p, q] ∧ p.2 = a := by
  match ps, h with
  | [p, q], h => simp at h; exact ⟨p, q, rfl, h.1⟩

set_option maxRecDepth 100000 in
set_option maxHeartbeats 2000000 in
theorem awake_any (w : World) (hT : Tabs w) : Calls Tryd.prog 17 #[] w fun e w' => e = .returned (.bool true) ∧ Below w.heap.size w w' := by
  have HT := Lib.hid hT
  clear hT
  go_enter Tryd.func17, Tryd.ntmps17
  go_wp2_with fail
  refine (rint_any 1 _).mono ?_
  rintro e w1 ⟨rfl, hb1⟩
  go_wp2_with fail
  refine (rtext_any _ _).mono ?_
  rintro e w2 ⟨rfl, hb2⟩
  have Z2 := Lib.hid (hb1.step hb2)
  clear hb1 hb2
  go_wp2_with fail
  have I2 : AwI w w2.heap.size (w2.heap.size + 1) ((w2.alloc (Obj.cells (leafC 3 1 ByteArray.empty).arr 25)).alloc (Obj.cells (leafC 4 0 bA).arr 25)) :=
    ⟨(Blk.new_at rfl).alloc _, Blk.new_at (by simp), (Z2.out.alloc Z2.out.size _).alloc (by have := Z2.out.size; simp; omega) _⟩
  refine (set_new vDoc vOne (leafC 5 0 ⟨#[]⟩) (leafC 3 1 ByteArray.empty) bA _ (rw_doc _) (rw_one _) rfl find_doc (by decide) (by decide)).mono ?_
  rintro e w3 ⟨cd, rfl, hrd, hb3⟩
  rw [add_doc] at hrd
  have I3 := I2.step hb3
  have l1 := I3.b1.lt
  have l2 := I3.b2.lt
  obtain ⟨a0, a1, a2, a3, a4⟩ := VAt.of_blk I3.b1
  obtain ⟨b0, b1, b2, b3, b4⟩ := VAt.of_blk I3.b2
  have J3 := Lib.hid I3
  have D3 := Lib.hid (hrd.mono (G := fun _ => True) fun _ _ => trivial)
  generalize w2.heap.size = g1 at *
  clear I2 I3 hrd hb3 Z2
  go_wp2_with fail
  have H4 := (Below.refl w3.heap.size w3).alloc (Nat.le_refl _) (Obj.cells cd.arr 25)
  refine (get_any vD cd bA _ (D3.out.step H4)).mono ?_
  rintro e w4 ⟨cx, rfl, hrx, hb4⟩
  rw [get_d] at hrx ⊢
  have I4 := (J3.out.step H4).step hb4
  have k3 : Blk w4 w3.heap.size 25 cd.arr := (Blk.new_at rfl).step hb4
  have D4 := Lib.hid ((D3.out.step H4).step hb4)
  have X4 : Hid (RW w4 cx vOne) := hrx.mono fun _ _ => trivial
  have J4 := Lib.hid I4
  have K3 := Lib.hid k3
  have l3 := k3.lt
  generalize w3.heap.size = g3 at *
  clear a0 a1 a2 a3 a4 b0 b1 b2 b3 b4 l1 l2
  obtain ⟨a0, a1, a2, a3, a4⟩ := VAt.of_blk I4.b1
  obtain ⟨b0, b1, b2, b3, b4⟩ := VAt.of_blk I4.b2
  have l1 := I4.b1.lt
  have l2 := I4.b2.lt
  clear H4 hrx hb4 I4 k3 J3 D3
  go_wp2_with fail
  have H5 := ((Below.refl w4.heap.size w4).alloc (Nat.le_refl _) (Obj.cells cx.arr 25)).alloc (by simp) (Obj.cells #[.int .i64 4, .int .i64 0, .string bA, .slice none 0 0, .slice none 0 0, .int .i64 3, .int .i64 1, .string ByteArray.empty, .slice none 0 0, .slice none 0 0] 25)
  refine (sortV_any [(leafC 4 0 bA, vText), (leafC 3 1 ByteArray.empty, vOne)] _ 2 2 _ (sl_two (Blk.new_at (by simp))) (by omega)).mono ?_
  rintro e w5 ⟨A, n, c, ps, rfl, hst, hsl, hb5⟩
  have k4 : Blk w5 w4.heap.size 25 cx.arr := ((Blk.new_at rfl).alloc _).step hb5
  obtain ⟨p, q, rfl, hp2⟩ := two_of (sort_two hst)
  obtain rfl : n = 2 := hsl.sr.ln
  obtain ⟨b, off, rfl, _, hv, hr⟩ := hsl.vat (i := 0) (p := p) rfl
  have hpn : p.1.n = 1 := by rw [hr.open.n, hp2]; rfl
  have hc2 : 2 ≤ c := hsl.sr.lc
  obtain ⟨_, m1, _, _, _⟩ := hv
  rw [hpn] at m1
  simp only [Nat.zero_mul, Nat.add_zero] at m1
  have I5 := (J4.out.step H5).step hb5
  have J5 := Lib.hid I5
  have K5 := Lib.hid (((K3.out.alloc _).alloc _).step hb5)
  have K4 := Lib.hid k4
  have D5 := Lib.hid ((D4.out.step H5).step hb5)
  have X5 := Lib.hid ((X4.out.step H5).step hb5)
  have T5 := Lib.hid (HT.out.step I5.bel)
  have M5 := Lib.hid m1
  generalize w4.heap.size = g4 at *
  clear a0 a1 a2 a3 a4 b0 b1 b2 b3 b4 l1 l2 l3
  obtain ⟨a0, a1, a2, a3, a4⟩ := VAt.of_blk I5.b1
  obtain ⟨b0, b1, b2, b3, b4⟩ := VAt.of_blk I5.b2
  clear H5 hst hsl hb5 k4 hr hpn I5 m1 J4 K3 D4 X4 hp2
  go_wp2_with fail
  refine (cmp_any vOne vText (leafC 3 1 ByteArray.empty) (leafC 4 0 bA) _ (rw_one _) (rw_text _)).mono ?_
  rintro e w6 ⟨rfl, hb6⟩
  rw [cmp_one_text]
  have B6 := Lib.hid hb6
  clear a0 a1 a2 a3 a4 b0 b1 b2 b3 b4
  obtain ⟨d0, d1, d2, d3, d4⟩ := VAt.of_blk (K5.out.step hb6)
  clear hb6
  go_wp2_with fail
  refine (valid_any vD cd _ (T5.out.step B6.out) (D5.out.step B6.out)).mono ?_
  rintro e w7 ⟨rfl, hb7⟩
  rw [valid_d]
  have B7 := Lib.hid (B6.out.step hb7)
  clear d0 d1 d2 d3 d4 hb7
  go_wp2_with fail
  refine (valid_any Val.zero (leafC 0 0 ⟨#[]⟩) _ (T5.out.step B7.out) (rw_zero _)).mono ?_
  rintro e w8 ⟨rfl, hb8⟩
  rw [valid_zero]
  have B8 := Lib.hid (B7.out.step hb8)
  clear hb8
  obtain ⟨a0, a1, a2, a3, a4⟩ := VAt.of_blk (J5.out.step B8.out).b1
  obtain ⟨c0, c1, c2, c3, c4⟩ := VAt.of_blk (K4.out.step B8.out)
  go_wp2_with fail
  refine (equal_any vOne vOne cx (leafC 3 1 ByteArray.empty) _ (X5.out.step B8.out) (rw_one _)).mono ?_
  rintro e w9 ⟨rfl, hb9⟩
  rw [cmp_one]
  have B9 := Lib.hid (B8.out.step hb9)
  have m9 := (B9.out.cell (p := ⟨b, off + 1, none⟩) (World.block_lt_of_cell? w5 _ M5.out)).trans M5.out
  clear hb9 a0 a1 a2 a3 a4 c0 c1 c2 c3 c4
  obtain ⟨d0, d1, d2, d3, d4⟩ := VAt.of_blk (K5.out.step B9.out)
  go_wp2_with fail
  refine (depthV_any vD cd _ (D5.out.step B9.out)).mono ?_
  rintro e w10 ⟨rfl, hb10⟩
  rw [depth_d]
  have B10 := Lib.hid (B9.out.step hb10)
  clear hb10 d0 d1 d2 d3 d4 m9
  obtain ⟨d0, d1, d2, d3, d4⟩ := VAt.of_blk (K5.out.step B10.out)
  go_wp2_with fail
  refine (nodesV_any vD cd _ (D5.out.step B10.out)).mono ?_
  rintro e w11 ⟨rfl, hb11⟩
  rw [nodes_d]
  go_wp2_with fail
  go_ret
  exact ⟨rfl, J5.out.bel.step' (B10.out.step hb11)⟩

end Go.Proofs.YtckeccfbadlhhaaDoor
