/- Parts of the proof, joined: BoSame, BoLim, BoIn, BoPre, BoAnd, IvBaseD, BoOr, BoKind6, BoOfA, BoOfB. -/
import Derived.Test.YtfkapannahcjiaaGreatDoorAp3
import Derived.Test.YtfkapannahcjiaaGreatDoorAp23
import Derived.Test.YtfkapannahcjiaaGreatDoorAp11
import Derived.Test.YtfkapannahcjiaaGreatDoorAp24
import Derived.Test.YtfkapannahcjiaaGreatDoorAp12
import Derived.Test.YtfkapannahcjiaaGreatDoorAp17
import Derived.Test.YtfkapannahcjiaaGreatDoorAp20
import Derived.Test.YtfkapannahcjiaaGreatDoorAp21
import Derived.Test.YtfkapannahcjiaaGreatDoorAp5
import Derived.Lib.AppendZerosOnto
/- bounds.sameIntervals and isAll. -/
namespace Go.Proofs.YtfkapannahcjiaaGreatDoor
open Go.RowKit
set_option linter.unusedSimpArgs false

theorem vequal_any (x y : Val) (c d : VC) (w : World) (h : RW w c x) (h' : RW w d y) : Calls Tryz.prog 23 #[c.val, d.val] w fun e w' => e = .returned (.bool (cmpV x y == 0)) ∧ Below w.heap.size w w' := by
  have H := Lib.hid h
  have H' := Lib.hid h'
  clear h h'
  go_enter Tryz.func23, Tryz.ntmps23
  go_wp2_with fail
  refine (cmp_any x y c d _ ((H.out.alloc _).alloc _) ((H'.out.alloc _).alloc _)).mono ?_
  rintro e w1 ⟨rfl, hb⟩
  go_wp2_with fail
  go_ret
  exact ⟨rfl, (((Below.refl _ _).alloc (Nat.le_refl _) _).alloc (by simp) _).step' hb⟩

def sameIv (x y : Iv) : Bool := (x.li == y.li) && ((x.hin == y.hin) && ((cmpV x.lo y.lo == 0) && (cmpV x.hi y.hi == 0)))
def sameIvs : List Iv → List Iv → Bool
  | [], [] => true
  | x :: r, y :: s => sameIv x y && sameIvs r s
  | _, _ => false
theorem sameIvs_len : ∀ {l m : List Iv}, l.length ≠ m.length → sameIvs l m = false
  | [], [], h => absurd rfl h
  | [], _ :: _, _ => rfl
  | _ :: _, [], _ => rfl
  | x :: r, y :: s, h => by rw [sameIvs, sameIvs_len (by simpa using h), Bool.and_false]
theorem sameIvs_at {l m : List Iv} {i : Nat} {x y : Iv} (hx : l[i]? = some x) (hy : m[i]? = some y) : sameIvs (l.drop i) (m.drop i) = (sameIv x y && sameIvs (l.drop (i + 1)) (m.drop (i + 1))) := by rw [drop_of hx, drop_of hy, sameIvs]
theorem sameIvs_end {l m : List Iv} {i : Nat} (h1 : l.length ≤ i) (h2 : m.length ≤ i) : sameIvs (l.drop i) (m.drop i) = true := by rw [List.drop_of_length_le h1, List.drop_of_length_le h2]; rfl
theorem sameIv_iff {s t : Cut × Cut} (hs : VC1 s.1 ∧ VC1 s.2) (ht : VC1 t.1 ∧ VC1 t.2) : sameIv (ivOf s) (ivOf t) = true ↔ s = t := by
  obtain ⟨⟨a, b⟩, ⟨c, d⟩⟩ := s
  obtain ⟨⟨a', b'⟩, ⟨c', d'⟩⟩ := t
  unfold sameIv ivOf
  simp only [Bool.and_eq_true, beq_iff_eq]
  constructor
  · rintro ⟨h1, h2, h3, h4⟩
    have e1 : a = a' := congrArg Prod.fst (lin_cut.eq (a, false) (a', false) hs.1 ht.1 ((cmC_zero h3).trans rfl))
    have e2 : c = c' := congrArg Prod.fst (lin_cut.eq (c, false) (c', false) hs.2 ht.2 ((cmC_zero h4).trans rfl))
    have e3 : b = b' := by cases b <;> cases b' <;> simp at h1 ⊢
    rw [e1, e2, e3, h2]
  · intro e
    simp only [Prod.mk.injEq] at e
    obtain ⟨⟨rfl, rfl⟩, ⟨rfl, rfl⟩⟩ := e
    have z : ∀ v : Val, cmpV v v = 0 := fun v => by have := cmpV_anti v v; omega
    exact ⟨rfl, rfl, z _, z _⟩
theorem sameIvs_iff : ∀ {n m : List (Cut × Cut)}, (∀ s ∈ n, VC1 s.1 ∧ VC1 s.2) → (∀ s ∈ m, VC1 s.1 ∧ VC1 s.2) → (sameIvs (n.map ivOf) (m.map ivOf) = true ↔ n = m)
  | [], [], _, _ => by simp [sameIvs]
  | [], _ :: _, _, _ => by simp [sameIvs]
  | _ :: _, [], _, _ => by simp [sameIvs]
  | s :: r, t :: q, h1, h2 => by
    simp only [List.map_cons, sameIvs, Bool.and_eq_true]
    rw [sameIv_iff (h1 s (by simp)) (h2 t (by simp)), sameIvs_iff (fun x hx => h1 x (by simp [hx])) (fun x hx => h2 x (by simp [hx])), List.cons.injEq]

set_option maxRecDepth 100000 in
set_option maxHeartbeats 4000000 in
theorem sameIv1_any (p q : PI) (w : World) (hp : okI w p) (hq : okI w q) : Calls Tryz.prog 178 #[aggI p, aggI q] w fun e w' => e = .returned (.bool (sameIv (ivP p) (ivP q))) ∧ Below w.heap.size w w' := by
  have HK1 : Hid (∀ wr, Below w.heap.size w wr → Calls Tryz.prog 23 #[p.1.1.1.val, q.1.1.1.val] wr fun e w' => e = .returned (.bool (cmpV p.1.1.2 q.1.1.2 == 0)) ∧ Below wr.heap.size wr w') := Lib.hid fun wr hb => vequal_any _ _ _ _ wr (hp.1.step hb) (hq.1.step hb)
  have HK2 : Hid (∀ wr, Below w.heap.size w wr → Calls Tryz.prog 23 #[p.1.2.1.val, q.1.2.1.val] wr fun e w' => e = .returned (.bool (cmpV p.1.2.2 q.1.2.2 == 0)) ∧ Below wr.heap.size wr w') := Lib.hid fun wr hb => vequal_any _ _ _ _ wr (hp.2.step hb) (hq.2.step hb)
  have HS : Hid (sameIv (ivP p) (ivP q) = ((p.2.1 == q.2.1) && ((p.2.2 == q.2.2) && ((cmpV p.1.1.2 q.1.1.2 == 0) && (cmpV p.1.2.2 q.1.2.2 == 0))))) := Lib.hid rfl
  obtain ⟨z1, hz1⟩ : ∃ z, z = (cmpV p.1.1.2 q.1.1.2 == 0) := ⟨_, rfl⟩
  obtain ⟨z2, hz2⟩ : ∃ z, z = (cmpV p.1.2.2 q.1.2.2 == 0) := ⟨_, rfl⟩
  rw [← hz1] at HK1 HS
  rw [← hz2] at HK2 HS
  clear hz1 hz2 hp hq
  obtain ⟨⟨⟨c1, x1⟩, ⟨c2, x2⟩⟩, ⟨f1, f2⟩⟩ := p
  obtain ⟨⟨⟨e1, y1⟩, ⟨e2, y2⟩⟩, ⟨g1, g2⟩⟩ := q
  have B0 : Hid (Blk ((w.alloc (Obj.cells (arrI (((c1, x1), (c2, x2)), (f1, f2))) 67)).alloc (Obj.cells (arrI (((e1, y1), (e2, y2)), (g1, g2))) 67)) w.heap.size 67 (arrI (((c1, x1), (c2, x2)), (f1, f2)))) := (Blk.new_at rfl).alloc _
  have B1 : Hid (Blk ((w.alloc (Obj.cells (arrI (((c1, x1), (c2, x2)), (f1, f2))) 67)).alloc (Obj.cells (arrI (((e1, y1), (e2, y2)), (g1, g2))) 67)) (w.heap.size + 1) 67 (arrI (((e1, y1), (e2, y2)), (g1, g2)))) := Blk.new_at (by simp)
  have BE : Hid (Below w.heap.size w ((w.alloc (Obj.cells (arrI (((c1, x1), (c2, x2)), (f1, f2))) 67)).alloc (Obj.cells (arrI (((e1, y1), (e2, y2)), (g1, g2))) 67))) := ((Below.refl _ _).alloc (Nat.le_refl _) _).alloc (by simp) _
  go_enter Tryz.func178, Tryz.ntmps178
  go_upto_region 1 with fail
  change Code.wp _ _ _ _ ((w.alloc (Obj.cells (arrI (((c1, x1), (c2, x2)), (f1, f2))) 67)).alloc (Obj.cells (arrI (((e1, y1), (e2, y2)), (g1, g2))) 67))
  generalize ((w.alloc (Obj.cells (arrI (((c1, x1), (c2, x2)), (f1, f2))) 67)).alloc (Obj.cells (arrI (((e1, y1), (e2, y2)), (g1, g2))) 67)) = wa at *
  obtain ⟨⟨a0, a1, a2, a3, a4⟩, ⟨b0, b1, b2, b3, b4⟩, b5, b6⟩ := IAt.of_blk B0.out
  obtain ⟨⟨c0, c3, c4, c5, c6⟩, ⟨d0, d1, d2, d3, d4⟩, d5, d6⟩ := IAt.of_blk B1.out
  simp only [Nat.zero_add] at a0 a1 a2 a3 a4 b0 b1 b2 b3 b4 b5 b6 c0 c3 c4 c5 c6 d0 d1 d2 d3 d4 d5 d6
  obtain ⟨u1, hu1⟩ : ∃ u, u = (f1 == g1) := ⟨_, rfl⟩
  obtain ⟨u2, hu2⟩ : ∃ u, u = (f2 == g2) := ⟨_, rfl⟩
  simp only at HS
  rw [← hu1, ← hu2] at HS
  replace hu1 := hu1.symm
  replace hu2 := hu2.symm
  cases u1
  · go_wp2_with fail
    go_ret
    exact ⟨by rw [HS.out]; rfl, BE.out⟩
  cases u2
  · go_wp2_with fail
    go_ret
    exact ⟨by rw [HS.out]; rfl, BE.out⟩
  go_wp2_with (fail)
  refine (HK1.out _ BE.out).mono ?_
  rintro e w1 ⟨rfl, hb⟩
  replace B0 := Lib.hid (B0.out.step hb)
  replace B1 := Lib.hid (B1.out.step hb)
  replace BE := Lib.hid (BE.out.step' hb)
  clear hb a0 a1 a2 a3 a4 b0 b1 b2 b3 b4 b5 b6 c0 c3 c4 c5 c6 d0 d1 d2 d3 d4 d5 d6
  obtain ⟨⟨a0, a1, a2, a3, a4⟩, ⟨b0, b1, b2, b3, b4⟩, b5, b6⟩ := IAt.of_blk B0.out
  obtain ⟨⟨c0, c3, c4, c5, c6⟩, ⟨d0, d1, d2, d3, d4⟩, d5, d6⟩ := IAt.of_blk B1.out
  simp only [Nat.zero_add] at a0 a1 a2 a3 a4 b0 b1 b2 b3 b4 b5 b6 c0 c3 c4 c5 c6 d0 d1 d2 d3 d4 d5 d6
  cases z1
  · go_wp2_with fail
    go_ret
    exact ⟨by rw [HS.out]; rfl, BE.out⟩
  go_wp2_with (fail)
  refine (HK2.out _ BE.out).mono ?_
  rintro e w1 ⟨rfl, hb⟩
  replace BE := Lib.hid (BE.out.step' hb)
  clear hb a0 a1 a2 a3 a4 b0 b1 b2 b3 b4 b5 b6 c0 c3 c4 c5 c6 d0 d1 d2 d3 d4 d5 d6
  go_wp2_with fail
  go_ret
  exact ⟨by rw [HS.out]; rfl, BE.out⟩
set_option maxRecDepth 100000 in
set_option maxHeartbeats 4000000 in
theorem eqIvs_any (xs ys : List PI) (A B : Option Addr) (n c m d : Nat) (w : World) (h : SI w A n c xs) (h' : SI w B m d ys) :
    Calls Tryz.prog 177 #[.slice A n c, .slice B m d, .func (.func 178) #[] #[]] w fun e w' => e = .returned (.bool (sameIvs (xs.map ivP) (ys.map ivP))) ∧ Below w.heap.size w w' := by
  have hz : n ≤ 140737488355328 := by have := h.sz; unfold reach at this; omega
  have hk : m ≤ 140737488355328 := by have := h'.sz; unfold reach at this; omega
  have H := Lib.hid h
  have H' := Lib.hid h'
  clear h h'
  by_cases hnk : n = m
  · subst hnk
    go_enter Tryz.func177, Tryz.ntmps177
    go_upto_region 4 with fail
    go_loopw [17] (fun v wr => ∃ i : Nat, i ≤ n ∧ v = .int .i64 i ∧ sameIvs (xs.map ivP) (ys.map ivP) = sameIvs ((xs.map ivP).drop i) ((ys.map ivP).drop i) ∧ Below w.heap.size w wr) (fun v _ => n - (intOf v).toNat)
    case atStart => exact ⟨0, Nat.zero_le _, rfl, rfl, Below.refl _ _⟩
    case round =>
      obtain ⟨i, hi, rfl, ha, hbel⟩ := hrel
      have HA := Lib.hid ha
      have HB := Lib.hid hbel
      clear ha hbel
      by_cases hlt : i < n
      · obtain ⟨p, hp⟩ : ∃ p, xs[i]? = some p := ⟨_, List.getElem?_eq_getElem (by have := H.out.sr.ln; omega)⟩
        obtain ⟨q, hq⟩ : ∃ q, ys[i]? = some q := ⟨_, List.getElem?_eq_getElem (by have := H'.out.sr.ln; omega)⟩
        obtain ⟨b, off, rfl, hb, hat, hok⟩ := H.out.at hp
        obtain ⟨b', off', rfl, hb', hat', hok'⟩ := H'.out.at hq
        have HX := Lib.hid (sameIvs_at (l := xs.map ivP) (m := ys.map ivP) (i := i) (x := ivP p) (y := ivP q) (by rw [List.getElem?_map, hp]; rfl) (by rw [List.getElem?_map, hq]; rfl))
        have HC := Lib.hid fun wz (hz : Below w.heap.size w wz) => sameIv1_any p q wz (hok.step hz) (hok'.step hz)
        obtain ⟨⟨a0, a1, a2, a3, a4⟩, ⟨b0, b1, b2, b3, b4⟩, b5, b6⟩ := hat.keep (HB.out.block b hb)
        go_upto_region 6 with fail
        change Code.wp _ _ _ _ (wr.alloc (Obj.cells (arrI p) 67))
        have B0 : Hid (Blk (wr.alloc (Obj.cells (arrI p) 67)) wr.heap.size 67 (arrI p)) := Blk.new_at rfl
        have BE : Hid (Below w.heap.size w (wr.alloc (Obj.cells (arrI p) 67))) := HB.out.alloc HB.out.size _
        have hat2 := hat'.keep (w' := wr.alloc (Obj.cells (arrI p) 67)) (BE.out.block b' hb')
        generalize hwz : wr.alloc (Obj.cells (arrI p) 67) = wz at *
        clear hwz a0 a1 a2 a3 a4 b0 b1 b2 b3 b4 b5 b6
        obtain ⟨⟨c0, c3, c4, c5, c6⟩, ⟨d0, d1, d2, d3, d4⟩, d5, d6⟩ := hat2
        clear hat hat' hok hok' hp hq
        generalize wr.heap.size = gz at *
        go_upto_region 7 with fail
        change Code.wp _ _ _ _ (wz.alloc (Obj.cells (arrI q) 67))
        have B1 : Hid (Blk (wz.alloc (Obj.cells (arrI q) 67)) wz.heap.size 67 (arrI q)) := Blk.new_at rfl
        replace B0 := Lib.hid (B0.out.alloc (Obj.cells (arrI q) 67))
        replace BE := Lib.hid (BE.out.alloc BE.out.size (Obj.cells (arrI q) 67))
        generalize wz.alloc (Obj.cells (arrI q) 67) = wa at *
        clear c0 c3 c4 c5 c6 d0 d1 d2 d3 d4 d5 d6
        obtain ⟨⟨a0, a1, a2, a3, a4⟩, ⟨b0, b1, b2, b3, b4⟩, b5, b6⟩ := IAt.of_blk B0.out
        obtain ⟨⟨c0, c3, c4, c5, c6⟩, ⟨d0, d1, d2, d3, d4⟩, d5, d6⟩ := IAt.of_blk B1.out
        simp only [Nat.zero_add] at a0 a1 a2 a3 a4 b0 b1 b2 b3 b4 b5 b6 c0 c3 c4 c5 c6 d0 d1 d2 d3 d4 d5 d6
        generalize wz.heap.size = gy at *
        go_wp2_with fail
        refine (HC.out _ BE.out).mono ?_
        rintro e w1 ⟨rfl, hb1⟩
        have CE := Lib.hid (BE.out.step' hb1)
        clear hb1 a0 a1 a2 a3 a4 b0 b1 b2 b3 b4 b5 b6 c0 c3 c4 c5 c6 d0 d1 d2 d3 d4 d5 d6
        obtain ⟨z, hz'⟩ : ∃ z, z = sameIv (ivP p) (ivP q) := ⟨_, rfl⟩
        rw [← hz'] at HX ⊢
        clear hz'
        cases z
        · have HF : Hid (sameIvs (xs.map ivP) (ys.map ivP) = false) := by rw [Hid, HA.out, HX.out]; rfl
          go_wp2_with fail
          go_ret
          exact ⟨by rw [HF.out]; rfl, CE.out⟩
        · have HF : Hid (sameIvs (xs.map ivP) (ys.map ivP) = sameIvs ((xs.map ivP).drop (i + 1)) ((ys.map ivP).drop (i + 1))) := by rw [Hid, HA.out, HX.out]; rfl
          go_wp2_with fail
          go_roundw
          case rel => exact ⟨i + 1, by omega, by go_num, HF.out, CE.out⟩
          case measure => simp [intOf]; omega
      · have HF : Hid (sameIvs (xs.map ivP) (ys.map ivP) = true) := by rw [Hid, HA.out]; exact sameIvs_end (by have := H.out.sr.ln; simp; omega) (by have := H'.out.sr.ln; simp; omega)
        go_wp2_with fail
        go_ret
        exact ⟨by rw [HF.out]; rfl, HB.out⟩
  · have HF : Hid (sameIvs (xs.map ivP) (ys.map ivP) = false) := sameIvs_len (by have := H.out.sr.ln; have := H'.out.sr.ln; simp; omega)
    have hnk' : ((n : Int) != (m : Int)) = true := by simp; omega
    go_enter Tryz.func177, Tryz.ntmps177
    go_wp2_with fail
    go_ret
    exact ⟨by rw [HF.out]; rfl, Below.refl _ _⟩
set_option maxRecDepth 100000 in
set_option maxHeartbeats 2000000 in
theorem sameIvs_any (xs ys : List PI) (A B : Option Addr) (n c m d : Nat) (w : World) (h : SI w A n c xs) (h' : SI w B m d ys) :
    Calls Tryz.prog 142 #[.slice A n c, .slice B m d] w fun e w' => e = .returned (.bool (sameIvs (xs.map ivP) (ys.map ivP))) ∧ Below w.heap.size w w' := by
  have H := Lib.hid (eqIvs_any xs ys A B n c m d w h h')
  clear h h'
  go_enter Tryz.func142, Tryz.ntmps142
  go_wp2_with fail
  refine H.out.mono ?_
  rintro e w1 ⟨rfl, hb⟩
  have HB := Lib.hid hb
  clear hb
  go_wp2_with fail
  go_ret
  exact ⟨rfl, HB.out⟩
set_option maxRecDepth 100000 in
set_option maxHeartbeats 2000000 in
theorem isAll_any {S : Cut → Prop} {nf : List (Cut × Cut)} (xs : List PI) (A : Option Addr) (n c : Nat) (w : World) (h : SI w A n c xs) (hx : xs.map ivP = nf.map ivOf) (hn : IsNF S nf) :
    Calls Tryz.prog 109 #[.slice A n c] w fun e w' => e = .returned (.bool (isAllB S)) ∧ Below w.heap.size w w' := by
  have H := Lib.hid h
  have HX := Lib.hid hx
  have HN := Lib.hid hn
  clear h hx hn
  go_enter Tryz.func109, Tryz.ntmps109
  go_wp2_with fail
  refine (all_any w).mono ?_
  rintro e w1 ⟨A1, m1, c1, ys, n1, rfl, hy, hn1, _, hsi, hb⟩
  have HB := Lib.hid hb
  have HS : Hid (sameIvs (xs.map ivP) (ys.map ivP) = isAllB S) := by
    have e1 : n1 = [((vMin, false), (vMax, true))] := hn1.unique all_nf fun _ _ => Iff.rfl
    rw [Hid, HX.out, hy, Bool.eq_iff_iff, sameIvs_iff (fun s hs => (HN.out.1.ne s hs).2) (fun s hs => (hn1.1.ne s hs).2), e1]
    exact nf_isAll HN.out
  have HC := Lib.hid (sameIvs_any xs ys A A1 n c m1 c1 w1 (H.out.step hb) hsi)
  rw [HS.out] at HC
  clear hb hy hn1 hsi HS
  go_wp2_with fail
  refine HC.out.mono ?_
  rintro e w2 ⟨rfl, hb⟩
  have CE := Lib.hid (HB.out.step' hb)
  clear hb
  go_wp2_with fail
  go_ret
  exact ⟨rfl, CE.out⟩
end Go.Proofs.YtfkapannahcjiaaGreatDoor



/- bounds.limited, ofIn, ofPrefix. -/
namespace Go.Proofs.YtfkapannahcjiaaGreatDoor
open Go.RowKit
set_option linter.unusedSimpArgs false

/-- the range with the argument as one of its ends -/
def limP (op : Int) (q : PI) (a : PV) : PI := if op = 4 ∨ op = 5 then ((a, q.1.2), (decide (op = 5), q.2.2)) else ((q.1.1, a), (q.2.1, decide (op = 7)))
theorem limP_iv {op : Int} {x : Val} {c : VC} {q : PI} (hq : ivP q = rangeI x.k) : ivP (limP op q (c, x)) = limI op x := by
  unfold limP limI
  split
  · rw [← hq]; rfl
  · rw [← hq]; rfl
theorem results_ivc {fn : Func} {p : Tmp} (h : fn.results = #[.cell p 67]) (tmps : Array Value) (g : Nat) (h1 : tmps[p]?.getD undef = .pointer (some ⟨g, 0, none⟩))
    (W : World) (R : Array Value) (hz : R.size = 12) (q : Blk W g 67 R) : (results fn tmps).run Tryz.prog W = .ok (.agg R) W := by
  simp [results, h, h1, asAddr, load_iv q hz]
theorem arrI_all (v : PI) : (arrI v).all (·.oneCell') = true := by simp [Value.oneCell']
set_option maxRecDepth 100000 in
set_option maxHeartbeats 8000000 in
theorem limited_any (q : PI) (p : PrT) (w : World) (ho : p.op = 4 ∨ p.op = 5 ∨ p.op = 6 ∨ p.op = 7) :
    Calls Tryz.prog 62 #[aggI q, aggPr p] w fun e w' => e = .returned (aggI (limP p.op q p.arg)) ∧ Below w.heap.size w w' := by
  have B0 : Hid (Blk (((w.alloc (Obj.cells (arrI q) 67)).alloc (Obj.cells (arrPr p) 38)).alloc (Obj.cells (arrI zI) 67)) w.heap.size 67 (arrI q)) := ((Blk.new_at rfl).alloc _).alloc _
  have B1 : Hid (Blk (((w.alloc (Obj.cells (arrI q) 67)).alloc (Obj.cells (arrPr p) 38)).alloc (Obj.cells (arrI zI) 67)) (w.heap.size + 1) 38 (arrPr p)) := (Blk.new_at (by simp)).alloc _
  have B2 : Hid (Blk (((w.alloc (Obj.cells (arrI q) 67)).alloc (Obj.cells (arrPr p) 38)).alloc (Obj.cells (arrI zI) 67)) (w.heap.size + 2) 67 (arrI zI)) := Blk.new_at (by simp)
  have BE : Hid (Below w.heap.size w (((w.alloc (Obj.cells (arrI q) 67)).alloc (Obj.cells (arrPr p) 38)).alloc (Obj.cells (arrI zI) 67))) := (((Below.refl _ _).alloc (Nat.le_refl _) _).alloc (by simp) _).alloc (by simp; omega) _
  go_enter Tryz.func62, Tryz.ntmps62
  go_upto_region 1 with fail
  change Code.wp _ _ _ _ (((w.alloc (Obj.cells (arrI q) 67)).alloc (Obj.cells (arrPr p) 38)).alloc (Obj.cells (arrI zI) 67))
  generalize (((w.alloc (Obj.cells (arrI q) 67)).alloc (Obj.cells (arrPr p) 38)).alloc (Obj.cells (arrI zI) 67)) = wa at *
  obtain ⟨d0, _, _, _, _, _, _, _⟩ := pr_cells B1.out
  have f2 := (range_parg B1.out) 0 _ rfl
  have f3 := (range_parg B1.out) 1 _ rfl
  have f4 := (range_parg B1.out) 2 _ rfl
  have f5 := (range_parg B1.out) 3 _ rfl
  have f6 := (range_parg B1.out) 4 _ rfl
  simp only [Nat.reduceAdd] at f2 f3 f4 f5 f6
  obtain ⟨⟨a0, a1, a2, a3, a4⟩, ⟨b0, b1, b2, b3, b4⟩, b5, b6⟩ := IAt.of_blk B0.out
  simp only [Nat.zero_add] at a0 a1 a2 a3 a4 b0 b1 b2 b3 b4 b5 b6
  have z0 := B0.out.frozen
  obtain ⟨op, hop⟩ : ∃ op, op = p.op := ⟨_, rfl⟩
  rw [← hop] at d0 ho
  have HOP := Lib.hid hop
  clear hop
  obtain ⟨R, hR⟩ : ∃ R : Array Value, R = arrI (limP op q p.arg) := ⟨_, rfl⟩
  have HR2 := Lib.hid hR
  have HRK : Hid (R.size = 12) := by rw [hR]; exact Lib.hid rfl
  have HALL : Hid (R.all (·.oneCell') = true) := by rw [Hid, hR]; exact arrI_all _
  have HAG : Hid (aggI (limP op q p.arg) = .agg R) := by rw [hR]; exact Lib.hid rfl
  clear hR
  rcases ho with rfl | rfl | rfl | rfl
  all_goals
    first | go_upto_region 4 with fail | go_upto_region 7 with fail
    go_region
    all_goals
      go_upto_region 8 with fail
      refine wp_name ?_
      intro w5 hw5
      have C0 : Hid (Blk w5 w.heap.size 67 R) := by
        rw [Hid, hw5]
        refine Blk.cast9 (cs := R) ?_
        exact ⟨_, Blk.drew (Blk.set_ (Blk.set_ (Blk.set_ (Blk.set_ (Blk.set_ (Blk.set_ B0.out _ _) _ _) _ _) _ _) _ _) _ _), by rw [HR2.out]; rfl⟩
      have C2 : Hid (Blk w5 (w.heap.size + 2) 67 (arrI zI)) := by
        rw [Hid, hw5]
        refine Blk.drew ?_
        repeat' refine Blk.far ?_ (by show w.heap.size + 2 ≠ w.heap.size; omega) _
        exact B2.out
      have CE : Hid (Below w.heap.size w w5) := by
        rw [Hid, hw5]
        refine Below.drew ?_
        repeat' refine Below.setCell ?_ (by show w.heap.size ≤ w.heap.size; omega) _
        exact BE.out
      have RG : Hid (w5.rangeAt w.heap.size 0 R.toList) := range_blk C0.out _ _ fun j v hj => by rw [Nat.zero_add, ← hj, Array.getElem?_toList]
      clear hw5 a0 a1 a2 a3 a4 b0 b1 b2 b3 b4 b5 b6 B0 B1 B2 BE z0 f2 f3 f4 f5 f6 d0
      go_wp2_with (first
        | ((with_reducible show wpList _ _ _ (⟨_, .load 67 _, _, _, _, _⟩ :: _) _ _); refine wpList_mid_w rfl 67 _ rfl w.heap.size 0 rfl _ _ RG.out Tryz.underlying67 rfl (by rw [Array.length_toList, HRK.out]; kernel_rfl) ?_)
        | ((with_reducible show wpList _ _ _ (⟨_, .store 67 _ _, _, _, _, _⟩ :: _) _ _); refine wpList_store_row rfl 67 _ _ rfl (w.heap.size + 2) R rfl rfl 67 _ C2.out (by rw [HRK.out]; kernel_rfl) (by rw [HRK.out]; rfl) HALL.out ?_))
      exact bodyPost_ret (results_ivc rfl _ _ rfl _ R HRK.out (blk_row C2.out R)) rfl ⟨by rw [← HOP.out, HAG.out], bel_row CE.out (by omega) _⟩
end Go.Proofs.YtfkapannahcjiaaGreatDoor



/- bounds.ofIn. -/
namespace Go.Proofs.YtfkapannahcjiaaGreatDoor
open Go.RowKit
set_option linter.unusedSimpArgs false

/-- what Of and its parts hand back -/
def OfOk (r : PSet) (k : Nat) (w : World) (e : Ending) (w' : World) : Prop :=
  ∃ (A : Option Addr) (m c : Nat) (ys : List PI) (nf : List (Cut × Cut)), e = .returned (.tuple #[.slice A m c, .bool r.2]) ∧ ys.map ivP = nf.map ivOf ∧ IsNF r.1 nf ∧ m ≤ k ∧ SI w' A m c ys ∧ Below w.heap.size w w' ∧ ∀ y ∈ ys, Fr w.heap.size w' y
theorem OfOk.up {r : PSet} {k k' : Nat} {w0 w w' : World} {e : Ending} (h : OfOk r k w e w') (hb : Below w0.heap.size w0 w) (hk : k ≤ k') : OfOk r k' w0 e w' := by
  obtain ⟨A, m, c, ys, nf, h1, h2, h3, h4, h5, h6, h7⟩ := h
  exact ⟨A, m, c, ys, nf, h1, h2, h3, Nat.le_trans h4 hk, h5, hb.step' h6, fun y hy => (h7 y hy).low hb.size⟩
theorem in_exact {xs : List PV} {b : Bool} (h6 : ∀ x ∈ xs, x.2.k ≠ 6) (hb : b = true ↔ ∀ x ∈ xs, x.2.k ≠ 2) {arg : Val} {n : Int} : leafI 8 arg (xs.map Prod.snd) n = some ((xs.map Prod.snd).map ptIv, b) := by
  rw [leafI_in (by rintro ⟨v, hv, hk⟩; obtain ⟨x, hx, rfl⟩ := List.mem_map.1 hv; exact h6 x hx hk)]
  congr 2
  rw [Bool.eq_iff_iff, decide_eq_true_iff, hb]
  constructor
  · intro h x hx hk
    exact h ⟨x.2, List.mem_map_of_mem hx, hk⟩
  · rintro h ⟨v, hv, hk⟩
    obtain ⟨x, hx, rfl⟩ := List.mem_map.1 hv
    exact h x hx hk
set_option maxRecDepth 100000 in
set_option maxHeartbeats 4000000 in
theorem ofIn_any (p : PrT) (w : World) (hw : WP w p) (hT : Tabs w) : Calls Tryz.prog 63 #[aggPr p] w (OfOk (leafS 8 p.arg.2 (p.args.xs.map Prod.snd) p.n) (p.args.n + 1) w) := by
  have HT := Lib.hid hT
  have W := Lib.hid hw.open
  have haz : p.args.n ≤ 1048576 := W.out.few
  clear hw hT
  have B0 : Hid (Blk (w.alloc (Obj.cells (arrPr p) 38)) w.heap.size 38 (arrPr p)) := Blk.new_at rfl
  have BE := Lib.hid ((Below.refl w.heap.size w).alloc (Nat.le_refl _) (Obj.cells (arrPr p) 38))
  go_enter Tryz.func63, Tryz.ntmps63
  go_upto_region 1 with fail
  change Code.wp _ _ _ _ (w.alloc (Obj.cells (arrPr p) 38))
  generalize w.alloc (Obj.cells (arrPr p) 38) = wa at *
  obtain ⟨_, _, _, _, d7, _, _, _⟩ := pr_cells B0.out
  go_upto_region 3 with fail
  go_loopw [4, 6, 10] (fun v4 _ v10 wr => ∃ (i : Nat) (b : Bool), i ≤ p.args.n ∧ v10 = .int .i64 i ∧ v4 = .bool b ∧ (∀ x ∈ p.args.xs.take i, x.2.k ≠ 6) ∧ (b = true ↔ ∀ x ∈ p.args.xs.take i, x.2.k ≠ 2) ∧ Blk wr w.heap.size 38 (arrPr p) ∧ Below w.heap.size w wr) (fun _ _ v10 _ => p.args.n - (intOf v10).toNat)
  case atStart => exact ⟨0, true, Nat.zero_le _, rfl, rfl, by simp, by simp, B0.out, BE.out⟩
  case round =>
    obtain ⟨i, bx, hi, rfl, rfl, h6, h2, hB0, hBE⟩ := hrel
    clear B0 BE d7
    have B0 := Lib.hid hB0
    have BE := Lib.hid hBE
    have H6 := Lib.hid h6
    have H2 := Lib.hid h2
    obtain ⟨_, _, _, _, d7, _, _, _⟩ := pr_cells B0.out
    clear hB0 hBE h6 h2
    by_cases hlt : i < p.args.n
    · obtain ⟨b, off, x, hA, hb, hx, hm, hrg⟩ := W.out.args.sr.row hlt
      have HX := Lib.hid hx
      have RG := Lib.hid (range_step hrg BE.out hb)
      have HM := Lib.hid hm
      have HK : Hid (x.1.k = x.2.k) := Lib.hid (W.out.args.rv x hm).open.k
      have i0 : (0 : Int) ≤ (i : Int) := by omega
      have i1 : (i : Int) < (p.args.n : Int) := by omega
      clear hrg hx hm
      have q0 := RG.out 0 _ rfl
      have q1 := RG.out 1 _ rfl
      have q2 := RG.out 2 _ rfl
      have q3 := RG.out 3 _ rfl
      have q4 := RG.out 4 _ rfl
      simp only [Nat.add_zero] at q0
      have HA := Lib.hid hA
      rw [hA]
      clear hA d7
      go_upto_region 5 with fail
      change Code.wp _ _ _ _ (wr.alloc (Obj.cells x.1.arr 29))
      have JB : Hid (Blk (wr.alloc (Obj.cells x.1.arr 29)) wr.heap.size 29 x.1.arr) := Blk.new_at rfl
      replace B0 := Lib.hid (B0.out.alloc (Obj.cells x.1.arr 29))
      replace BE := Lib.hid (BE.out.alloc BE.out.size (Obj.cells x.1.arr 29))
      generalize wr.alloc (Obj.cells x.1.arr 29) = wb at *
      generalize wr.heap.size = ga at *
      clear q0 q1 q2 q3 q4 RG
      have q0 := JB.out.cell 0
      simp at q0
      obtain ⟨kk, hkk⟩ : ∃ k, k = x.1.k := ⟨_, rfl⟩
      rw [← hkk] at q0 HK
      have HKK := Lib.hid hkk
      clear hkk
      cases h6 : (kk == 6)
      · have n6 : x.2.k ≠ 6 := by rw [← HK.out]; simpa using h6
        have N6 := Lib.hid n6
        clear n6
        have tk : p.args.xs.take (i + 1) = p.args.xs.take i ++ [x] := by rw [List.take_add_one, HX.out]; rfl
        have TK := Lib.hid tk
        clear tk
        cases bx
        · go_wp2_with fail
          go_roundw
          case rel =>
            refine ⟨i + 1, false, by omega, by go_num, rfl, fun y hy => ?_, ?_, B0.out, BE.out⟩
            · rw [TK.out] at hy
              rcases List.mem_append.1 hy with hy | hy
              · exact H6.out y hy
              · obtain rfl : y = x := by simpa using hy
                exact N6.out
            · rw [TK.out]
              refine ⟨fun h => by simp at h, fun h => ?_⟩
              exact H2.out.2 fun y hy => h y (by simp [hy])
          case measure => simp [intOf]; omega
        · go_wp2_with fail
          go_roundw
          case rel =>
            refine ⟨i + 1, (kk != 2), by omega, by go_num, rfl, fun y hy => ?_, ?_, B0.out, BE.out⟩
            · rw [TK.out] at hy
              rcases List.mem_append.1 hy with hy | hy
              · exact H6.out y hy
              · obtain rfl : y = x := by simpa using hy
                exact N6.out
            · rw [TK.out]
              have e : (kk != 2) = true ↔ x.2.k ≠ 2 := by rw [← HK.out]; simp
              rw [e]
              refine ⟨fun h y hy => ?_, fun h => h x (by simp)⟩
              rcases List.mem_append.1 hy with hy | hy
              · exact H2.out.1 rfl y hy
              · obtain rfl : y = x := by simpa using hy
                exact h
          case measure => simp [intOf]; omega
      · have e6 : x.2.k = 6 := by rw [← HK.out]; simpa using h6
        have E6 := Lib.hid e6
        clear e6
        have HL : Hid (leafS 8 p.arg.2 (p.args.xs.map Prod.snd) p.n = (allS, false)) := Lib.hid (leafS_none (leafI_in6 ⟨x.2, List.mem_map_of_mem HM.out, E6.out⟩))
        go_wp2_with fail
        refine (allF_any wb).mono ?_
        rintro e w3 ⟨A3, m3, c3, ys, nf, rfl, hy, hnf, hmk, hsi, hb3, hfr⟩
        have HNO := Lib.hid (show OfOk (allS, false) 1 wb (.returned (.tuple #[.slice A3 m3 c3, .bool false])) w3 from ⟨A3, m3, c3, ys, nf, rfl, hy, hnf, hmk, hsi, hb3, hfr⟩)
        clear hy hnf hmk hsi hb3 hfr
        go_wp2_with fail
        go_ret2
        rw [HL.out]
        exact HNO.out.up BE.out (by omega)
    · obtain rfl : i = p.args.n := by omega
      have htk : p.args.xs.take p.args.n = p.args.xs := List.take_of_length_le (by have := W.out.args.sr.ln; omega)
      have HL : Hid (leafS 8 p.arg.2 (p.args.xs.map Prod.snd) p.n = (fun a => inS cmC a (spansL (p.args.xs.map fun q => ptIv q.2)), bx)) := by
        have h6 := H6.out
        have h2 := H2.out
        rw [htk] at h6 h2
        rw [Hid, leafS_some (in_exact h6 h2), List.map_map]
        rfl
      go_wp2_with fail
      refine (pointsF_any p.args.xs _ _ _ wr (HT.out.step BE.out) (W.out.args.step BE.out) (by omega)).mono ?_
      rintro e w3 ⟨A3, m3, c3, ys, nf, rfl, hy, hnf, hmk, hsi, hb3, hfr⟩
      have HNO := Lib.hid (show OfOk ((fun a => inS cmC a (spansL (p.args.xs.map fun q => ptIv q.2))), bx) _ wr (.returned (.tuple #[.slice A3 m3 c3, .bool bx])) w3 from ⟨A3, m3, c3, ys, nf, rfl, hy, hnf, hmk, hsi, hb3, hfr⟩)
      clear hy hnf hmk hsi hb3 hfr htk
      go_wp2_with fail
      go_ret2
      rw [HL.out]
      exact HNO.out.up BE.out (by omega)
end Go.Proofs.YtfkapannahcjiaaGreatDoor



/- bounds.ofPrefix. -/
namespace Go.Proofs.YtfkapannahcjiaaGreatDoor
open Go.RowKit
set_option linter.unusedSimpArgs false

theorem iv_full2 {w : World} {g : Nat} {v : PI} (h : Blk w g 67 (arrI v)) : w.rangeAt g 0 (arrI v).toList :=
  range_blk h _ _ fun j x hj => by rw [Nat.zero_add, ← hj, Array.getElem?_toList]
theorem afterB_size {t s : ByteArray} (h : afterB t = some s) : s.size ≤ t.size := by
  have hl := stripN_le t t.size
  unfold afterB at h
  cases hn : stripN t t.size with
  | zero => rw [hn] at h; simp at h
  | succ n =>
    rw [hn] at h hl
    simp only [Option.some.injEq] at h
    subst h
    rw [ByteArray.size_append, ByteArray.size_extract]
    show min n t.size - 0 + 1 ≤ t.size
    omega
/-- what ofPrefix makes of the range of texts -/
theorem pre_some {x : Val} {s : ByteArray} (h : afterB x.t = some s) (hv : validV (.mk 4 0 s [] []) = true) : preI x = (⟨x, .mk 4 0 s [] [], true, false⟩, true) := by
  unfold preI
  rw [h]
  simp only [hv, if_true]
theorem pre_bad {x : Val} {s : ByteArray} (h : afterB x.t = some s) (hv : validV (.mk 4 0 s [] []) = false) : preI x = (⟨x, vKd 5, true, false⟩, decide (x.t = ByteArray.empty)) := by
  unfold preI
  rw [h]
  simp [hv]
theorem pre_none {x : Val} (h : afterB x.t = none) : preI x = (⟨x, vKd 5, true, false⟩, decide (x.t = ByteArray.empty)) := by
  unfold preI
  rw [h]
theorem wpl_stLo {ops : Array Oper} {rest : List Oper} {o : Oper} {a : Act} {w W : World} {Q : Exit → Act → World → Prop} {B g : Nat} {p : PI} {c : VC} (hgd : o.guard = none) (x y : Operand) (ho : o.op = .store 29 x y)
    (hx : a.eval x = .pointer (some ⟨g, 0, none⟩)) (hy : a.eval y = .agg c.arr) (h1 : Blk w g 67 (arrI p)) (hb : Below B W w) (hB : B ≤ g) (v : Val)
    (h : ∀ w6, Blk w6 g 67 (arrI (((c, v), p.1.2), p.2)) → (∀ (b : Nat) (t : TypeId) (cs : Array Value), b ≠ g → Blk w b t cs → Blk w6 b t cs) → Below B W w6 → wpList Tryz.prog ops Q rest (a.put o.dst undef) w6) : wpList Tryz.prog ops Q (o :: rest) a w :=
  wpList_store_mid hgd 29 x y ho g 0 c.arr hx hy (iv_there h1 (by simp)) (by kernel_rfl) (by simp [Value.oneCell']) (h _ (putLo h1 c v) (fun _ _ _ hne k => blk_far9 k hne _ _) (bel_cells9 hb hB _ _))
theorem wpl_stHi {ops : Array Oper} {rest : List Oper} {o : Oper} {a : Act} {w W : World} {Q : Exit → Act → World → Prop} {B g : Nat} {p : PI} {c : VC} (hgd : o.guard = none) (x y : Operand) (ho : o.op = .store 29 x y)
    (hx : a.eval x = .pointer (some ⟨g, 5, none⟩)) (hy : a.eval y = .agg c.arr) (h1 : Blk w g 67 (arrI p)) (hb : Below B W w) (hB : B ≤ g) (v : Val)
    (h : ∀ w6, Blk w6 g 67 (arrI ((p.1.1, (c, v)), p.2)) → (∀ (b : Nat) (t : TypeId) (cs : Array Value), b ≠ g → Blk w b t cs → Blk w6 b t cs) → Below B W w6 → wpList Tryz.prog ops Q rest (a.put o.dst undef) w6) : wpList Tryz.prog ops Q (o :: rest) a w :=
  wpList_store_mid hgd 29 x y ho g 5 c.arr hx hy (iv_there h1 (by simp)) (by kernel_rfl) (by simp [Value.oneCell']) (h _ (putHi h1 c v) (fun _ _ _ hne k => blk_far9 k hne _ _) (bel_cells9 hb hB _ _))
set_option maxRecDepth 100000 in
set_option maxHeartbeats 4000000 in
theorem ofPrefix_any (p : PrT) (w : World) (hw : WP w p) (hT : Tabs w) : Calls Tryz.prog 64 #[aggPr p] w (OfOk (leafS 16 p.arg.2 (p.args.xs.map Prod.snd) p.n) 1 w) := by
  have HT := Lib.hid hT
  have W := Lib.hid hw.open
  have HKT : Hid (p.arg.1.t = p.arg.2.t) := Lib.hid hw.open.arg.open.t
  have HTZ : Hid (p.arg.1.t.size ≤ reach) := by have := hw.open.arg.open.tsz; exact Lib.hid (by rw [hw.open.arg.open.t]; exact this)
  clear hw hT
  have B0 : Hid (Blk (w.alloc (Obj.cells (arrPr p) 38)) w.heap.size 38 (arrPr p)) := Blk.new_at rfl
  have BE := Lib.hid ((Below.refl w.heap.size w).alloc (Nat.le_refl _) (Obj.cells (arrPr p) 38))
  go_enter Tryz.func64, Tryz.ntmps64
  go_upto_region 1 with fail
  change Code.wp _ _ _ _ (w.alloc (Obj.cells (arrPr p) 38))
  generalize w.alloc (Obj.cells (arrPr p) 38) = wa at *
  go_wp2_with fail
  refine (kindRange_any 4 wa (by omega) (by omega)).mono ?_
  rintro e w1 ⟨rfl, hb⟩
  replace B0 := Lib.hid (B0.out.step hb)
  replace BE := Lib.hid (BE.out.step' hb)
  clear hb
  go_upto_region 2 with fail
  change Code.wp _ _ _ _ (w1.alloc (Obj.cells (arrI (rngP 4)) 67))
  have J : Hid (Blk (w1.alloc (Obj.cells (arrI (rngP 4)) 67)) w1.heap.size 67 (arrI (rngP 4))) := Blk.new_at rfl
  have HGJ : Hid (w.heap.size < w1.heap.size) := Lib.hid B0.out.lt
  replace B0 := Lib.hid (B0.out.alloc (Obj.cells (arrI (rngP 4)) 67))
  replace BE := Lib.hid (BE.out.alloc BE.out.size (Obj.cells (arrI (rngP 4)) 67))
  generalize w1.alloc (Obj.cells (arrI (rngP 4)) 67) = w2 at *
  generalize w1.heap.size = gj at *
  have RA := Lib.hid (range_parg B0.out)
  have gle := HGJ.out
  go_upto_region 3 with (first
    | ((with_reducible show wpList _ _ _ (⟨_, .load 29 _, _, _, _, _⟩ :: _) _ _); refine wpList_mid_w rfl 29 _ rfl w.heap.size 2 rfl _ _ RA.out Tryz.underlying29 rfl (by kernel_rfl) ?_)
    | ((with_reducible show wpList _ _ _ (⟨_, .store 29 _ _, _, _, _, _⟩ :: _) _ _); refine wpl_stLo (c := p.arg.1) rfl _ _ rfl rfl rfl J.out BE.out (by omega) p.arg.2 ?_; intro w6 hJ hfar hBE; have B6 := Lib.hid (hfar _ _ _ (by omega) B0.out); clear J BE B0 RA hfar; have J := Lib.hid hJ; have BE := Lib.hid hBE; have B0 := Lib.hid B6.out; clear hJ hBE B6))
  obtain ⟨_, _, _, d4, _, _, _, _⟩ := pr_cells B0.out
  obtain ⟨tx, htx⟩ : ∃ t, t = p.arg.1.t := ⟨_, rfl⟩
  rw [← htx] at d4 HKT HTZ
  have HTX := Lib.hid htx
  clear htx
  have HAR : Hid (RW w p.arg.1 p.arg.2) := W.out.arg
  have hEd : decide (p.arg.2.t = ByteArray.empty) = tx.toList.isEmpty := by
    rw [← HKT.out, Bool.eq_iff_iff, decide_eq_true_iff, List.isEmpty_iff, Go.ByteArray.toList_eq]
    constructor
    · rintro rfl; rfl
    · intro h; exact ByteArray.ext (Array.toList_inj.1 h)
  have HED := Lib.hid hEd
  clear hEd
  have e0 : zero12.size ≤ reach := by decide
  cases hA : afterB tx with
  | none =>
    have hq : preI p.arg.2 = (⟨p.arg.2, vKd 5, true, false⟩, decide (p.arg.2.t = ByteArray.empty)) := pre_none (by rw [← HKT.out]; exact hA)
    have hE : afterE tx = .returned (.tuple #[.string ByteArray.empty, .bool false]) := by unfold afterE; rw [hA]; rfl
    have hAf := after_any tx w6 HTZ.out
    rw [hE] at hAf
    have HAF := Lib.hid hAf
    have HPQ := Lib.hid hq
    clear hAf hE hq hA
    go_wp2_with fail
    refine HAF.out.mono ?_
    rintro e w3 ⟨rfl, hb⟩
    replace J := Lib.hid (J.out.step hb)
    replace B0 := Lib.hid (B0.out.step hb)
    replace BE := Lib.hid (BE.out.step' hb)
    clear hb d4 HAF
    go_upto_region 5 with fail
    change Code.wp _ _ _ _ (w3.alloc (Obj.cells (cLf 4 0 ByteArray.empty).arr 29))
    replace J := Lib.hid (J.out.alloc (Obj.cells (cLf 4 0 ByteArray.empty).arr 29))
    replace B0 := Lib.hid (B0.out.alloc (Obj.cells (cLf 4 0 ByteArray.empty).arr 29))
    replace BE := Lib.hid (BE.out.alloc BE.out.size (Obj.cells (cLf 4 0 ByteArray.empty).arr 29))
    generalize w3.alloc (Obj.cells (cLf 4 0 ByteArray.empty).arr 29) = w4 at *
    generalize w3.heap.size = gv at *
    obtain ⟨_, _, _, d4, _, _, _, _⟩ := pr_cells B0.out
    rw [← HTX.out] at d4
    have okQ : Hid (∀ wr, Below w.heap.size w wr → okI wr ((p.arg, (rngP 4).1.2), (rngP 4).2)) := Lib.hid fun wr hb => ⟨HAR.out.step hb, (rngP_ok 4 wr).2⟩
    obtain ⟨be, hbe⟩ : ∃ b, b = tx.toList.isEmpty := ⟨_, rfl⟩
    have HL : Hid (leafS 16 p.arg.2 (p.args.xs.map Prod.snd) p.n = ((fun a => inS cmC a (spansL ([((p.arg, (rngP 4).1.2), (rngP 4).2)].map ivP))), be)) := by
      rw [Hid, leafS_some leafI_pre, HPQ.out, HED.out, hbe]
      rfl
    replace hbe := hbe.symm
    cases be
    · have RGJ := Lib.hid (iv_full2 J.out)
      go_wp2_with ((with_reducible show wpList _ _ _ (⟨_, .load 67 _, _, _, _, _⟩ :: _) _ _); refine wpList_mid_w rfl 67 _ rfl gj 0 rfl _ _ RGJ.out Tryz.underlying67 rfl (by kernel_rfl) ?_)
      refine (normalF_any [((p.arg, (rngP 4).1.2), (rngP 4).2)] _ 1 1 _ (HT.out.step (BE.out.alloc BE.out.size _)) (si_one (Blk.new_at rfl) ((okQ.out _ (BE.out.alloc BE.out.size _)))) (by omega)).mono ?_
      rintro e w9 ⟨A3, m3, c3, ys, nf, rfl, hy, hnf, hmk, hsi, hb3, hfr⟩
      have HNO := Lib.hid (show OfOk ((fun a => inS cmC a (spansL ([((p.arg, (rngP 4).1.2), (rngP 4).2)].map ivP))), false) 1 _ (.returned (.tuple #[.slice A3 m3 c3, .bool (false)])) w9 from ⟨A3, m3, c3, ys, nf, rfl, hy, hnf, hmk, hsi, hb3, hfr⟩)
      clear hy hnf hmk hsi hb3 hfr
      go_wp2_with fail
      go_ret2
      rw [HL.out]
      exact HNO.out.up (BE.out.alloc BE.out.size _) (by omega)
    · have RGJ := Lib.hid (iv_full2 J.out)
      go_wp2_with ((with_reducible show wpList _ _ _ (⟨_, .load 67 _, _, _, _, _⟩ :: _) _ _); refine wpList_mid_w rfl 67 _ rfl gj 0 rfl _ _ RGJ.out Tryz.underlying67 rfl (by kernel_rfl) ?_)
      refine (normalF_any [((p.arg, (rngP 4).1.2), (rngP 4).2)] _ 1 1 _ (HT.out.step (BE.out.alloc BE.out.size _)) (si_one (Blk.new_at rfl) ((okQ.out _ (BE.out.alloc BE.out.size _)))) (by omega)).mono ?_
      rintro e w9 ⟨A3, m3, c3, ys, nf, rfl, hy, hnf, hmk, hsi, hb3, hfr⟩
      have HNO := Lib.hid (show OfOk ((fun a => inS cmC a (spansL ([((p.arg, (rngP 4).1.2), (rngP 4).2)].map ivP))), true) 1 _ (.returned (.tuple #[.slice A3 m3 c3, .bool (true)])) w9 from ⟨A3, m3, c3, ys, nf, rfl, hy, hnf, hmk, hsi, hb3, hfr⟩)
      clear hy hnf hmk hsi hb3 hfr
      go_wp2_with fail
      go_ret2
      rw [HL.out]
      exact HNO.out.up (BE.out.alloc BE.out.size _) (by omega)
  | some s =>
    have hE : afterE tx = .returned (.tuple #[.string s, .bool true]) := by unfold afterE; rw [hA]; rfl
    have hAf := after_any tx w6 HTZ.out
    rw [hE] at hAf
    have HAF := Lib.hid hAf
    have HSZ : Hid (s.size ≤ reach) := Lib.hid (Nat.le_trans (afterB_size hA) HTZ.out)
    have HAS := Lib.hid hA
    clear hAf hE hA
    go_wp2_with fail
    refine HAF.out.mono ?_
    rintro e w3 ⟨rfl, hb⟩
    replace J := Lib.hid (J.out.step hb)
    replace B0 := Lib.hid (B0.out.step hb)
    replace BE := Lib.hid (BE.out.step' hb)
    have HJ3 : Hid (gj < w3.heap.size) := Lib.hid J.out.lt
    clear hb d4 HAF
    go_upto_region 5 with fail
    change Code.wp _ _ _ _ (w3.alloc (Obj.cells (cLf 4 0 s).arr 29))
    have JB : Hid (Blk (w3.alloc (Obj.cells (cLf 4 0 s).arr 29)) w3.heap.size 29 (cLf 4 0 s).arr) := Blk.new_at rfl
    replace J := Lib.hid (J.out.alloc (Obj.cells (cLf 4 0 s).arr 29))
    replace B0 := Lib.hid (B0.out.alloc (Obj.cells (cLf 4 0 s).arr 29))
    replace BE := Lib.hid (BE.out.alloc BE.out.size (Obj.cells (cLf 4 0 s).arr 29))
    generalize w3.alloc (Obj.cells (cLf 4 0 s).arr 29) = w4 at *
    generalize w3.heap.size = gv at *
    obtain ⟨_, _, _, d4, _, _, _, _⟩ := pr_cells B0.out
    rw [← HTX.out] at d4
    obtain ⟨q0, q1, q2, q3, q4⟩ := VAt.of_blk JB.out
    simp only [Nat.zero_add] at q0 q1 q2 q3 q4
    obtain ⟨vb, hvb⟩ : ∃ b, b = validV (.mk 4 0 s [] []) := ⟨_, rfl⟩
    have HVC : Hid (∀ wr, Below w.heap.size w wr → Calls Tryz.prog 37 #[(cLf 4 0 s).val] wr fun e w' => e = .returned (.bool vb) ∧ Below wr.heap.size wr w') := Lib.hid fun wr hb => by
      rw [hvb]
      exact valid_any (.mk 4 0 s [] []) (cLf 4 0 s) wr (HT.out.step hb) (rw_leaf _ _ _ HSZ.out)
    obtain ⟨be, hbe⟩ : ∃ b, b = tx.toList.isEmpty := ⟨_, rfl⟩
    have HBE := Lib.hid hbe
    have HVB := Lib.hid hvb
    replace hbe := hbe.symm
    clear hvb
    go_upto_if 34 with (go_at_call 37; refine (HVC.out _ BE.out).mono ?_; rintro e w5 ⟨rfl, hb⟩; replace J := Lib.hid (J.out.step hb); replace JB := Lib.hid (JB.out.step hb); replace BE := Lib.hid (BE.out.step' hb); clear hb d4 q0 q1 q2 q3 q4 B0; obtain ⟨q0, q1, q2, q3, q4⟩ := VAt.of_blk JB.out; simp only [Nat.zero_add] at q0 q1 q2 q3 q4)
    cases vb
    · have okQ : Hid (∀ wr, Below w.heap.size w wr → okI wr ((p.arg, (rngP 4).1.2), (rngP 4).2)) := Lib.hid fun wr hb => ⟨HAR.out.step hb, (rngP_ok 4 wr).2⟩
      have HL : Hid (leafS 16 p.arg.2 (p.args.xs.map Prod.snd) p.n = ((fun a => inS cmC a (spansL ([((p.arg, (rngP 4).1.2), (rngP 4).2)].map ivP))), be)) := by
        rw [Hid, leafS_some leafI_pre, pre_bad (x := p.arg.2) (s := s) (by rw [← HKT.out]; exact HAS.out) HVB.out.symm, HED.out, HBE.out]
        rfl
      clear HBE
      cases be
      · have RGJ := Lib.hid (iv_full2 J.out)
        go_wp2_with ((with_reducible show wpList _ _ _ (⟨_, .load 67 _, _, _, _, _⟩ :: _) _ _); refine wpList_mid_w rfl 67 _ rfl gj 0 rfl _ _ RGJ.out Tryz.underlying67 rfl (by kernel_rfl) ?_)
        refine (normalF_any [((p.arg, (rngP 4).1.2), (rngP 4).2)] _ 1 1 _ (HT.out.step (BE.out.alloc BE.out.size _)) (si_one (Blk.new_at rfl) ((okQ.out _ (BE.out.alloc BE.out.size _)))) (by omega)).mono ?_
        rintro e w9 ⟨A3, m3, c3, ys, nf, rfl, hy, hnf, hmk, hsi, hb3, hfr⟩
        have HNO := Lib.hid (show OfOk ((fun a => inS cmC a (spansL ([((p.arg, (rngP 4).1.2), (rngP 4).2)].map ivP))), false) 1 _ (.returned (.tuple #[.slice A3 m3 c3, .bool (false)])) w9 from ⟨A3, m3, c3, ys, nf, rfl, hy, hnf, hmk, hsi, hb3, hfr⟩)
        clear hy hnf hmk hsi hb3 hfr
        go_wp2_with fail
        go_ret2
        rw [HL.out]
        exact HNO.out.up (BE.out.alloc BE.out.size _) (by omega)
      · have RGJ := Lib.hid (iv_full2 J.out)
        go_wp2_with ((with_reducible show wpList _ _ _ (⟨_, .load 67 _, _, _, _, _⟩ :: _) _ _); refine wpList_mid_w rfl 67 _ rfl gj 0 rfl _ _ RGJ.out Tryz.underlying67 rfl (by kernel_rfl) ?_)
        refine (normalF_any [((p.arg, (rngP 4).1.2), (rngP 4).2)] _ 1 1 _ (HT.out.step (BE.out.alloc BE.out.size _)) (si_one (Blk.new_at rfl) ((okQ.out _ (BE.out.alloc BE.out.size _)))) (by omega)).mono ?_
        rintro e w9 ⟨A3, m3, c3, ys, nf, rfl, hy, hnf, hmk, hsi, hb3, hfr⟩
        have HNO := Lib.hid (show OfOk ((fun a => inS cmC a (spansL ([((p.arg, (rngP 4).1.2), (rngP 4).2)].map ivP))), true) 1 _ (.returned (.tuple #[.slice A3 m3 c3, .bool (true)])) w9 from ⟨A3, m3, c3, ys, nf, rfl, hy, hnf, hmk, hsi, hb3, hfr⟩)
        clear hy hnf hmk hsi hb3 hfr
        go_wp2_with fail
        go_ret2
        rw [HL.out]
        exact HNO.out.up (BE.out.alloc BE.out.size _) (by omega)
    · have okQ : Hid (∀ wr, Below w.heap.size w wr → okI wr ((p.arg, (cLf 4 0 s, .mk 4 0 s [] [])), (true, false))) := Lib.hid fun wr hb => ⟨HAR.out.step hb, rw_leaf _ _ _ HSZ.out⟩
      have HL : Hid (leafS 16 p.arg.2 (p.args.xs.map Prod.snd) p.n = ((fun a => inS cmC a (spansL ([((p.arg, (cLf 4 0 s, .mk 4 0 s [] [])), (true, false))].map ivP))), true)) := by
        rw [Hid, leafS_some leafI_pre, pre_some (x := p.arg.2) (s := s) (by rw [← HKT.out]; exact HAS.out) HVB.out.symm]
        rfl
      go_upto_region 9 with ((with_reducible show wpList _ _ _ (⟨_, .store 29 _ _, _, _, _, _⟩ :: _) _ _); refine wpl_stHi (c := cLf 4 0 s) rfl _ _ rfl rfl rfl J.out BE.out (by omega) (.mk 4 0 s [] []) ?_; intro w7 hJ hfar hBE; clear J BE hfar q0 q1 q2 q3 q4 JB; have J := Lib.hid hJ; have BE := Lib.hid hBE; have z0 := J.out.frozen; have c11 := (J.out.cell 11).trans rfl; clear hJ hBE)
      refine wp_name ?_
      intro w9 hw9
      replace J : Hid (Blk w9 gj 67 (arrI ((p.arg, (cLf 4 0 s, .mk 4 0 s [] [])), (true, false)))) := by
        rw [Hid, hw9]
        exact Blk.cast9 ⟨_, J.out.set_ _ _, rfl⟩
      replace BE : Hid (Below w.heap.size w w9) := by
        rw [Hid, hw9]
        exact Below.setCell BE.out (by show w.heap.size ≤ gj; omega) _
      clear hw9 z0 c11
      have RGJ := Lib.hid (iv_full2 J.out)
      go_wp2_with ((with_reducible show wpList _ _ _ (⟨_, .load 67 _, _, _, _, _⟩ :: _) _ _); refine wpList_mid_w rfl 67 _ rfl gj 0 rfl _ _ RGJ.out Tryz.underlying67 rfl (by kernel_rfl) ?_)
      refine (normalF_any [((p.arg, (cLf 4 0 s, .mk 4 0 s [] [])), (true, false))] _ 1 1 _ (HT.out.step (BE.out.alloc BE.out.size _)) (si_one (Blk.new_at rfl) ((okQ.out _ (BE.out.alloc BE.out.size _)))) (by omega)).mono ?_
      rintro e w9 ⟨A3, m3, c3, ys, nf, rfl, hy, hnf, hmk, hsi, hb3, hfr⟩
      have HNO := Lib.hid (show OfOk ((fun a => inS cmC a (spansL ([((p.arg, (cLf 4 0 s, .mk 4 0 s [] [])), (true, false))].map ivP))), true) 1 _ (.returned (.tuple #[.slice A3 m3 c3, .bool (true)])) w9 from ⟨A3, m3, c3, ys, nf, rfl, hy, hnf, hmk, hsi, hb3, hfr⟩)
      clear hy hnf hmk hsi hb3 hfr
      go_wp2_with fail
      go_ret2
      rw [HL.out]
      exact HNO.out.up (BE.out.alloc BE.out.size _) (by omega)
end Go.Proofs.YtfkapannahcjiaaGreatDoor



/- bounds.ofAnd, given Of at the parts. -/
namespace Go.Proofs.YtfkapannahcjiaaGreatDoor
open Go.RowKit
set_option linter.unusedSimpArgs false

/-- Of's contract at a predicate -/
def OfAt (k : PrT) : Prop := ∀ (A : Option Addr) (n c : Nat) (l : List ByteArray) (w : World), WP w k → VPr k → Tabs w → ST w A n c l → k.sz ≤ 300000000 →
  Calls Tryz.prog 22 #[aggPr k, .slice A n c] w (OfOk (ofS l k) k.sz w)
theorem firstS_cons (r : PSet) (rs : List PSet) : firstS (r :: rs) = if isAllB r.1 then firstS rs else (r.1, false) := rfl
theorem andS_many {rs : List PSet} (h : rs.length ≠ 1) : andS rs = firstS rs := by
  unfold andS
  split
  · simp at h
  · rfl
theorem arrPr_all (p : PrT) : (arrPr p).all (·.oneCell') = true := by simp [Value.oneCell']
set_option maxRecDepth 100000 in
set_option maxHeartbeats 4000000 in
theorem ofAnd_any (p : PrT) (ih : ∀ k ∈ p.kids, OfAt k) (A : Option Addr) (n c : Nat) (l : List ByteArray) (w : World) (hw : WP w p) (hk : ∀ k ∈ p.kids, VPr k) (hT : Tabs w) (hl : ST w A n c l) (hz : p.sz ≤ 300000000) :
    Calls Tryz.prog 55 #[aggPr p, .slice A n c] w (OfOk (andS (p.kids.map (ofS l))) p.sz w) := by
  have HT := Lib.hid hT
  have W := Lib.hid hw.open
  have HL := Lib.hid hl
  have IH : Hid (∀ k ∈ p.kids, ∀ wr, Below w.heap.size w wr → Calls Tryz.prog 22 #[aggPr k, .slice A n c] wr (OfOk (ofS l k) p.sz wr)) := Lib.hid fun k hkm wr hb => by
    have hs : k.sz ≤ p.sz := by rw [p.sz_eq]; have := szL_ge hkm; omega
    exact (ih k hkm A n c l wr ((W.out.kids k hkm).step hb) (hk k hkm) (HT.out.step hb) (HL.out.step hb) (by omega)).mono fun e w' h => h.up (Below.refl _ _) hs
  have hkz : p.kn ≤ 140737488355328 := by have := W.out.ksz; unfold reach at this; omega
  have HKN := Lib.hid W.out.sr.ln
  have HSZ : Hid (1 ≤ p.sz) := by rw [Hid, p.sz_eq]; omega
  clear hw hk hT hl hz ih
  have B0 : Hid (Blk (w.alloc (Obj.cells (arrPr p) 38)) w.heap.size 38 (arrPr p)) := Blk.new_at rfl
  have BE := Lib.hid ((Below.refl w.heap.size w).alloc (Nat.le_refl _) (Obj.cells (arrPr p) 38))
  go_enter Tryz.func55, Tryz.ntmps55
  go_upto_region 1 with fail
  change Code.wp _ _ _ _ (w.alloc (Obj.cells (arrPr p) 38))
  generalize w.alloc (Obj.cells (arrPr p) 38) = wa at *
  obtain ⟨_, _, _, _, _, _, _, d24⟩ := pr_cells B0.out
  by_cases h1 : p.kn = 1
  · obtain ⟨b, off, k, hA, hb, hx, hm, hrg⟩ := W.out.sr.row (i := 0) (by omega)
    have RG := Lib.hid (range_step hrg BE.out hb)
    have HM := Lib.hid hm
    have HAND : Hid (andS (p.kids.map (ofS l)) = ofS l k) := by
      obtain ⟨y, hy⟩ := List.length_eq_one_iff.1 (show p.kids.length = 1 by have := HKN.out; omega)
      rw [hy] at hx ⊢
      obtain rfl : y = k := by simpa using hx
      rfl
    rw [Nat.zero_mul, Nat.add_zero] at RG
    rw [hA, h1] at d24
    clear hrg hx hm hA
    go_wp2_with (first
      | ((with_reducible show wpList _ _ _ (⟨_, .load 38 _, _, _, _, _⟩ :: _) _ _); refine wpList_mid_w rfl 38 _ rfl b off rfl _ _ RG.out Tryz.underlying38 rfl (by kernel_rfl) ?_)
      | (go_at_call 22; refine (IH.out k HM.out _ BE.out).mono ?_; rintro e w1 ⟨A3, m3, c3, ys, nf, rfl, hy, hnf, hmk, hsi, hb3, hfr⟩; have HNO := Lib.hid (show OfOk (ofS l k) p.sz _ (.returned (.tuple #[.slice A3 m3 c3, .bool (ofS l k).2])) w1 from ⟨A3, m3, c3, ys, nf, rfl, hy, hnf, hmk, hsi, hb3, hfr⟩); clear hy hnf hmk hsi hb3 hfr))
    go_ret2
    rw [HAND.out]
    exact HNO.out.up BE.out (Nat.le_refl _)
  · have HAND : Hid (andS (p.kids.map (ofS l)) = firstS (p.kids.map (ofS l))) := Lib.hid (andS_many (by rw [List.length_map]; have := HKN.out; omega))
    have h1b : ((p.kn : Int) == 1) = false := by simp; omega
    clear h1
    go_upto_region 4 with fail
    go_loopw [7, 8, 9, 25] (fun _ _ _ v wr => ∃ i : Nat, i ≤ p.kn ∧ v = .int .i64 i ∧ firstS (p.kids.map (ofS l)) = firstS ((p.kids.drop i).map (ofS l)) ∧ Below w.heap.size w wr) (fun _ _ _ v _ => p.kn - (intOf v).toNat)
    case atStart => exact ⟨0, Nat.zero_le _, rfl, rfl, BE.out⟩
    case round =>
      obtain ⟨i, hi, rfl, hf, hBE⟩ := hrel
      clear B0 BE d24
      have BE := Lib.hid hBE
      have HF := Lib.hid hf
      clear hf hBE
      by_cases hlt : i < p.kn
      · obtain ⟨b, off, k, hA, hb, hx, hm, hrg⟩ := W.out.sr.row hlt
        have RG := Lib.hid (range_step hrg BE.out hb)
        have HX := Lib.hid (drop_of hx)
        have HM := Lib.hid hm
        have i0 : (0 : Int) ≤ (i : Int) := by omega
        have i1 : (i : Int) < (p.kn : Int) := by omega
        rw [hA]
        clear hrg hx hm hA
        go_upto_region 6 with (first
          | ((with_reducible show wpList _ _ _ (⟨_, .load 38 _, _, _, _, _⟩ :: _) _ _); refine wpList_mid_w rfl 38 _ rfl b (off + i * 25) rfl _ _ RG.out Tryz.underlying38 rfl (by kernel_rfl) ?_)
          | ((with_reducible show wpList _ _ _ (⟨_, .store 38 _ _, _, _, _, _⟩ :: _) _ _); refine wpList_store_row rfl 38 _ _ rfl wr.heap.size (arrPr k) rfl rfl 38 _ (Blk.new_at rfl) (by kernel_rfl) rfl (arrPr_all k) ?_; refine wpl_name ?_; intro w4 hw4; have JB : Hid (Blk w4 wr.heap.size 38 (arrPr k)) := (by rw [Hid, hw4]; exact blk_row (Blk.new_at rfl) _); have BE4 : Hid (Below w.heap.size w w4) := (by rw [Hid, hw4]; exact bel_row (BE.out.alloc BE.out.size _) BE.out.size _); clear hw4 BE RG))
        generalize wr.heap.size = gk at *
        have RJ := Lib.hid (pr_full JB.out)
        clear JB
        go_upto_region 7 with (first
          | ((with_reducible show wpList _ _ _ (⟨_, .load 38 _, _, _, _, _⟩ :: _) _ _); refine wpList_mid_w rfl 38 _ rfl gk 0 rfl _ _ RJ.out Tryz.underlying38 rfl (by kernel_rfl) ?_)
          | (go_at_call 22; refine (IH.out k HM.out _ BE4.out).mono ?_; rintro e w5 ⟨A3, m3, c3, ys, nf, rfl, hy, hnf, hmk, hsi, hb3, hfr⟩; have HY := Lib.hid hy; have HNF := Lib.hid hnf; have HMK := Lib.hid hmk; have HSI := Lib.hid hsi; have BE5 := Lib.hid (BE4.out.step' hb3); have HFR := Lib.hid (fun y hy => (hfr y hy).low BE4.out.size); clear hy hnf hmk hsi hb3 hfr RJ BE4))
        obtain ⟨ab, hab⟩ : ∃ b, b = isAllB (ofS l k).1 := ⟨_, rfl⟩
        have HIA := Lib.hid (isAll_any ys A3 m3 c3 w5 HSI.out HY.out HNF.out)
        rw [← hab] at HIA
        have HAB := Lib.hid hab
        clear hab
        go_wp2_with fail
        refine HIA.out.mono ?_
        rintro e w6 ⟨rfl, hb⟩
        have BE6 := Lib.hid (BE5.out.step' hb)
        have HSI6 := Lib.hid (HSI.out.step hb)
        have HFR6 := Lib.hid (fun y hy => (HFR.out y hy).step hb)
        clear hb HIA
        have HFC : Hid (firstS (p.kids.map (ofS l)) = if ab then firstS ((p.kids.drop (i + 1)).map (ofS l)) else ((ofS l k).1, false)) := by
          rw [Hid, HF.out, HX.out, List.map_cons, firstS_cons, HAB.out]
        cases ab
        · go_wp2_with fail
          go_ret2
          rw [HAND.out, HFC.out]
          exact ⟨A3, m3, c3, ys, nf, rfl, HY.out, HNF.out, HMK.out, HSI6.out, BE6.out, HFR6.out⟩
        · go_wp2_with fail
          go_roundw
          case rel => exact ⟨i + 1, by omega, by go_num, (by simpa using HFC.out), BE6.out⟩
          case measure => simp [intOf]; omega
      · obtain rfl : i = p.kn := by omega
        have HE : Hid (firstS (p.kids.map (ofS l)) = (allS, false)) := by
          rw [Hid, HF.out, List.drop_of_length_le (by have := HKN.out; omega)]
          rfl
        go_wp2_with fail
        refine (allF_any wr).mono ?_
        rintro e w3 ⟨A3, m3, c3, ys, nf, rfl, hy, hnf, hmk, hsi, hb3, hfr⟩
        have HNO := Lib.hid (show OfOk (allS, false) 1 wr (.returned (.tuple #[.slice A3 m3 c3, .bool false])) w3 from ⟨A3, m3, c3, ys, nf, rfl, hy, hnf, hmk, hsi, hb3, hfr⟩)
        clear hy hnf hmk hsi hb3 hfr
        go_wp2_with fail
        go_ret2
        rw [HAND.out, HE.out]
        exact HNO.out.up BE.out HSZ.out
end Go.Proofs.YtfkapannahcjiaaGreatDoor



/- interval.Union: slices.Grow and slices.Concat of two lists of intervals. · The walk of the law IntervalLaws. (Printed by gen_laws24.py.) -/
namespace Go.Proofs.YtfkapannahcjiaaGreatDoor
open Go.RowKit

theorem SI.reads {w : World} {A : Option Addr} {n c : Nat} {xs : List PI} (h : SI w A n c xs) : Reads w w.heap.size 12 A n (flat recI xs) := by
  refine ⟨by rw [flat_length recI_length, h.sr.ln], fun hp => ?_⟩
  obtain ⟨b, off, e, hb, hel⟩ := h.sr.el hp
  cases e
  refine ⟨_, rfl, hb, fun j u hu => ?_⟩
  have hj := (List.getElem?_eq_some_iff.1 hu).1
  rw [flat_length recI_length] at hj
  obtain ⟨a, v, g1, g2, g3⟩ := flat_at' recI_length (by omega) xs j hj
  have := hel (j / 12) a g1 (j % 12) v g2
  rw [addr_add]
  rw [g3] at hu
  cases hu
  rw [show off + j = off + j / 12 * 12 + j % 12 by omega]
  exact this
end Go.Proofs.YtfkapannahcjiaaGreatDoor

namespace Go.Proofs.YtfkapannahcjiaaGreatDoor
open Go.RowKit

end Go.Proofs.YtfkapannahcjiaaGreatDoor



/- bounds.ofOr, given Of at the parts. -/
namespace Go.Proofs.YtfkapannahcjiaaGreatDoor
open Go.RowKit
set_option linter.unusedSimpArgs false

/-- the loop of ofOr -/
structure OrI (l : List ByteArray) (p : PrT) (w : World) (i m : Nat) (v : Value) (b : Bool) (xs : List PI) (wr : World) : Prop where
  own : wr.ownsRow w.heap.size 67 12 v m (flat recI xs)
  ln : xs.length = m
  le : m ≤ PrT.sz.szL (p.kids.take i)
  fr : ∀ x ∈ xs, RV (fun b => w.heap.size ≤ b ∧ v.ownBlock ≠ some b) wr x.1.1.1 x.1.1.2 ∧ RV (fun b => w.heap.size ≤ b ∧ v.ownBlock ≠ some b) wr x.1.2.1 x.1.2.2
  set : ∀ a, inS cmC a (spansL (xs.map ivP)) ↔ ∃ r ∈ (p.kids.take i).map (ofS l), r.1 a
  no : ∀ r ∈ (p.kids.take i).map (ofS l), isAllB r.1 = false
  ex : b = ((p.kids.take i).map (ofS l)).all fun r => r.2
  bel : Below w.heap.size w wr
theorem OrI.step {l : List ByteArray} {p : PrT} {w : World} {i m : Nat} {v : Value} {b : Bool} {xs : List PI} {wr w' : World} (h : OrI l p w i m v b xs wr) (hb : Below wr.heap.size wr w') : OrI l p w i m v b xs w' :=
  ⟨own_step h.own hb, h.ln, h.le, fun x hx => ⟨(h.fr x hx).1.step hb, (h.fr x hx).2.step hb⟩, h.set, h.no, h.ex, h.bel.step' hb⟩
theorem nf_spans {S : Cut → Prop} {ys : List PI} {nf : List (Cut × Cut)} (hy : ys.map ivP = nf.map ivOf) (hn : IsNF S nf) (a : Cut) : inS cmC a (spansL (ys.map ivP)) ↔ S a := by
  rw [hy, spansL_of fun s hs => hn.1.ne s hs, hn.2 a]
theorem rv_grown0 {lo : Nat} {v v' : Value} {w3 w4 : World} {c : VC} {x : Val} (hr : RV (fun b => lo ≤ b ∧ v.ownBlock ≠ some b) w3 c x) (hg : w3.grownBy w4 v.ownBlock) (hat : v'.ownBlock = v.ownBlock ∨ v'.ownBlock = some w3.heap.size) :
    RV (fun b => lo ≤ b ∧ v'.ownBlock ≠ some b) w4 c x := hr.keepG fun b hb hl => by
  refine ⟨⟨hb.1, fun e => ?_⟩, hg.block b hl (fun e => hb.2 e.symm)⟩
  rcases hat with h | h
  · rw [h] at e; exact hb.2 e
  · rw [h] at e; injection e with e; omega
/-- one more list is appended -/
theorem OrI.next {l : List ByteArray} {p k : PrT} {w : World} {i m m3 : Nat} {v v' : Value} {b b' : Bool} {xs ys : List PI} {nf : List (Cut × Cut)} {w5 w6 : World} (h : OrI l p w i m v b xs w5) (hk : p.kids[i]? = some k) (hy : ys.map ivP = nf.map ivOf) (hn : IsNF (ofS l k).1 nf)
    (h3 : ys.length = m3) (hm : m3 ≤ k.sz) (hfr : ∀ y ∈ ys, RV (fun b => w.heap.size ≤ b ∧ v.ownBlock ≠ some b) w5 y.1.1.1 y.1.1.2 ∧ RV (fun b => w.heap.size ≤ b ∧ v.ownBlock ≠ some b) w5 y.1.2.1 y.1.2.2) (hall : isAllB (ofS l k).1 = false) (hb' : b' = (b && (ofS l k).2))
    (ho : w6.ownsRow w.heap.size 67 12 v' (m + m3) (flat recI xs ++ flat recI ys)) (hg : w5.grownBy w6 v.ownBlock) (hat : v'.ownBlock = v.ownBlock ∨ v'.ownBlock = some w5.heap.size) : OrI l p w (i + 1) (m + m3) v' b' (xs ++ ys) w6 := by
  have tk : p.kids.take (i + 1) = p.kids.take i ++ [k] := by rw [List.take_add_one, hk]; rfl
  refine ⟨by rw [flat_append]; exact ho, by rw [List.length_append, h.ln, h3], by rw [szL_take _ _ hk]; have := h.le; omega, fun x hx => ?_, fun a => ?_, fun r hr => ?_, ?_, h.bel.grown hg h.bel.size (own_ge h.own)⟩
  · have hx' : RV (fun b => w.heap.size ≤ b ∧ v.ownBlock ≠ some b) w5 x.1.1.1 x.1.1.2 ∧ RV (fun b => w.heap.size ≤ b ∧ v.ownBlock ≠ some b) w5 x.1.2.1 x.1.2.2 := by
      rcases List.mem_append.1 hx with hx | hx
      · exact h.fr x hx
      · exact hfr x hx
    exact ⟨rv_grown0 hx'.1 hg hat, rv_grown0 hx'.2 hg hat⟩
  · rw [List.map_append, spansL_app, inS_app, h.set a, nf_spans hy hn a, tk, List.map_append]
    constructor
    · rintro (⟨r, hr, ha⟩ | ha)
      · exact ⟨r, List.mem_append_left _ hr, ha⟩
      · exact ⟨ofS l k, by simp, ha⟩
    · rintro ⟨r, hr, ha⟩
      rcases List.mem_append.1 hr with hr | hr
      · exact .inl ⟨r, hr, ha⟩
      · obtain rfl : r = ofS l k := by simpa using hr
        exact .inr ha
  · rw [tk, List.map_append] at hr
    rcases List.mem_append.1 hr with hr | hr
    · exact h.no r hr
    · obtain rfl : r = ofS l k := by simpa using hr
      exact hall
  · rw [hb', h.ex, tk, List.map_append, List.all_append]
    simp
theorem flatI_oneB (xs : List PI) : ∀ u ∈ flat recI xs, u.oneCell' = true := by
  intro u hu
  obtain ⟨p, _, h⟩ := List.mem_flatMap.1 hu
  exact recI_one p u h
theorem orS_all {rs : List PSet} {r : PSet} (h : r ∈ rs) (ha : isAllB r.1 = true) : orS rs = (allS, false) := by
  unfold orS
  rw [if_pos (List.any_eq_true.2 ⟨r, h, ha⟩)]
theorem orS_none {rs : List PSet} (h : ∀ r ∈ rs, isAllB r.1 = false) : orS rs = (fun a => ∃ r ∈ rs, r.1 a, rs.all fun r => r.2) := by
  unfold orS
  rw [if_neg]
  intro k
  obtain ⟨r, hr, ha⟩ := List.any_eq_true.1 k
  rw [h r hr] at ha
  exact absurd ha (by decide)
set_option maxRecDepth 100000 in
set_option maxHeartbeats 8000000 in
theorem ofOr_any (p : PrT) (ih : ∀ k ∈ p.kids, OfAt k) (A : Option Addr) (n c : Nat) (l : List ByteArray) (w : World) (hw : WP w p) (hk : ∀ k ∈ p.kids, VPr k) (hT : Tabs w) (hl : ST w A n c l) (hz : p.sz ≤ 300000000) (hne : p.kids ≠ []) :
    Calls Tryz.prog 56 #[aggPr p, .slice A n c] w (OfOk (orS (p.kids.map (ofS l))) p.sz w) := by
  obtain ⟨j0, hj0, hy0, hy1, hy2⟩ := info_parts info_interval
  have HT := Lib.hid hT
  have W := Lib.hid hw.open
  have HL := Lib.hid hl
  have IH : Hid (∀ k ∈ p.kids, ∀ wr, Below w.heap.size w wr → Calls Tryz.prog 22 #[aggPr k, .slice A n c] wr (OfOk (ofS l k) k.sz wr)) := Lib.hid fun k hkm wr hb => by
    have hs : k.sz ≤ p.sz := by rw [p.sz_eq]; have := szL_ge hkm; omega
    exact ih k hkm A n c l wr ((W.out.kids k hkm).step hb) (hk k hkm) (HT.out.step hb) (HL.out.step hb) (by omega)
  have hkz : p.kn ≤ 140737488355328 := by have := W.out.ksz; unfold reach at this; omega
  have HKN := Lib.hid W.out.sr.ln
  have HSZ : Hid (PrT.sz.szL p.kids + 1 ≤ p.sz) := by rw [Hid, p.sz_eq]; omega
  have HZ := Lib.hid hz
  have hk0 : 0 < p.kn := by
    have := W.out.sr.ln
    have h0 : 0 < p.kids.length := List.length_pos_iff.2 hne
    omega
  clear hw hk hT hl hz ih hne
  have B0 : Hid (Blk (w.alloc (Obj.cells (arrPr p) 38)) w.heap.size 38 (arrPr p)) := Blk.new_at rfl
  have BE := Lib.hid ((Below.refl w.heap.size w).alloc (Nat.le_refl _) (Obj.cells (arrPr p) 38))
  go_enter Tryz.func56, Tryz.ntmps56
  go_upto_region 1 with fail
  change Code.wp _ _ _ _ (w.alloc (Obj.cells (arrPr p) 38))
  generalize w.alloc (Obj.cells (arrPr p) 38) = wa at *
  obtain ⟨_, _, _, _, _, _, _, d24⟩ := pr_cells B0.out
  have h1b : ((p.kn : Int) == 0) = false := by simp; omega
  clear hk0
  go_upto_region 6 with fail
  go_loopw [6, 7, 9, 10, 11, 20] (fun v6 v7 _ _ _ v wr => ∃ (i m : Nat) (b : Bool) (xs : List PI), i ≤ p.kn ∧ v = .int .i64 i ∧ v7 = .bool b ∧ OrI l p w i m v6 b xs wr) (fun _ _ _ _ _ v _ => p.kn - (intOf v).toNat)
  case atStart =>
    refine ⟨0, 0, true, [], Nat.zero_le _, rfl, rfl, own_nil _ _ _ _, rfl, Nat.zero_le _, by simp, fun a => ?_, by simp, rfl, BE.out⟩
    constructor
    · rintro ⟨s, hs, _⟩; simp [spansL] at hs
    · rintro ⟨r, hr, _⟩; simp at hr
  case round =>
    obtain ⟨i, m, bx, xs, hi, rfl, rfl, hI⟩ := hrel
    clear B0 BE d24
    have HI := Lib.hid hI
    obtain ⟨A6, c6, rfl, hmc⟩ := own_slice hI.own
    have HM : Hid (m + 1 ≤ p.sz) := by
      have h1 := hI.le
      have h2 := szL_take_le p.kids i
      have h3 := HSZ.out
      exact Lib.hid (by omega)
    clear hI
    by_cases hlt : i < p.kn
    · obtain ⟨b, off, k, hA, hb, hx, hm, hrg⟩ := W.out.sr.row hlt
      have RG := Lib.hid (range_step hrg HI.out.bel hb)
      have HX := Lib.hid hx
      have HMK := Lib.hid hm
      have HMZ : Hid (m + k.sz ≤ 300000000) := by
        have h1 := HI.out.le
        have h2 := szL_take_le p.kids (i + 1)
        rw [szL_take _ _ hx] at h2
        have h3 := HSZ.out
        have h4 := HZ.out
        exact Lib.hid (by omega)
      have i0 : (0 : Int) ≤ (i : Int) := by omega
      have i1 : (i : Int) < (p.kn : Int) := by omega
      rw [hA]
      clear hrg hx hm hA
      go_upto_region 8 with (first
        | ((with_reducible show wpList _ _ _ (⟨_, .load 38 _, _, _, _, _⟩ :: _) _ _); refine wpList_mid_w rfl 38 _ rfl b (off + i * 25) rfl _ _ RG.out Tryz.underlying38 rfl (by kernel_rfl) ?_)
        | ((with_reducible show wpList _ _ _ (⟨_, .store 38 _ _, _, _, _, _⟩ :: _) _ _); refine wpList_store_row rfl 38 _ _ rfl wr.heap.size (arrPr k) rfl rfl 38 _ (Blk.new_at rfl) (by kernel_rfl) rfl (arrPr_all k) ?_; refine wpl_name ?_; intro w4 hw4; have JB : Hid (Blk w4 wr.heap.size 38 (arrPr k)) := (by rw [Hid, hw4]; exact blk_row (Blk.new_at rfl) _); have BW4 : Hid (Below wr.heap.size wr w4) := (by rw [Hid, hw4]; exact bel_row ((Below.refl _ _).alloc (Nat.le_refl _) _) (Nat.le_refl _) _); clear hw4 RG))
      replace HI := Lib.hid (HI.out.step BW4.out)
      generalize wr.heap.size = gk at *
      have RJ := Lib.hid (pr_full JB.out)
      clear JB BW4
      go_upto_region 9 with (first
        | ((with_reducible show wpList _ _ _ (⟨_, .load 38 _, _, _, _, _⟩ :: _) _ _); refine wpList_mid_w rfl 38 _ rfl gk 0 rfl _ _ RJ.out Tryz.underlying38 rfl (by kernel_rfl) ?_)
        | (go_at_call 22; refine (IH.out k HMK.out _ HI.out.bel).mono ?_; rintro e w5 ⟨A3, m3, c3, ys, nf, rfl, hy, hnf, hmk, hsi, hb3, hfr⟩; have HY := Lib.hid hy; have HNF := Lib.hid hnf; have HM3 := Lib.hid hmk; have HSI := Lib.hid hsi; have HB5 := Lib.hid hb3; have HFR := Lib.hid hfr; clear hy hnf hmk hsi hb3 hfr RJ))
      have HOL : Hid (∀ g, (Value.slice A6 m c6).ownBlock = some g → g < w4.heap.size) := Lib.hid fun g hg => own_lt HI.out.own hg
      have HW4 : Hid (w.heap.size ≤ w4.heap.size) := Lib.hid HI.out.bel.size
      replace HI := Lib.hid (HI.out.step HB5.out)
      obtain ⟨ab, hab⟩ : ∃ b, b = isAllB (ofS l k).1 := ⟨_, rfl⟩
      have HIA := Lib.hid (isAll_any ys A3 m3 c3 w5 HSI.out HY.out HNF.out)
      rw [← hab] at HIA
      have HAB := Lib.hid hab
      clear hab
      go_wp2_with fail
      refine HIA.out.mono ?_
      rintro e w6 ⟨rfl, hb6⟩
      replace HI := Lib.hid (HI.out.step hb6)
      have HSI6 := Lib.hid (HSI.out.step hb6)
      have HFR6 : Hid (∀ y ∈ ys, RV (fun b => w.heap.size ≤ b ∧ (Value.slice A6 m c6).ownBlock ≠ some b) w6 y.1.1.1 y.1.1.2 ∧ RV (fun b => w.heap.size ≤ b ∧ (Value.slice A6 m c6).ownBlock ≠ some b) w6 y.1.2.1 y.1.2.2) := Lib.hid fun y hy => by
        have key : ∀ q, w4.heap.size ≤ q → w.heap.size ≤ q ∧ (Value.slice A6 m c6).ownBlock ≠ some q := fun q hq => ⟨Nat.le_trans HW4.out hq, fun e => by have := HOL.out q e; omega⟩
        exact ⟨((HFR.out y hy).1.step hb6).mono key, ((HFR.out y hy).2.step hb6).mono key⟩
      clear hb6 HIA HSI HFR HOL HW4 HB5
      cases ab
      · have hml : ys.length = m3 := HSI6.out.sr.ln.symm
        have HML := Lib.hid hml
        have HRD := Lib.hid HSI6.out.reads
        have hm3 : m3 ≤ k.sz := HM3.out
        have hmz := HMZ.out
        have z1 : m + m3 ≤ maxLen := by unfold maxLen; omega
        have z2 : (m + m3) * 168 ≤ 140737488355328 := by omega
        clear hml
        cases bx
        all_goals
          go_wp2_with (at_builtin; refine wpList_append_any _ rfl _ _ 63 rfl w.heap.size 67 j0 (aggI (((VC.zero, Val.zero), (VC.zero, Val.zero)), (false, false))) 12 168 Tryz.underlying63 hj0 hy0 hy1 hy2 rfl (by decide) (.slice A6 m c6) m (flat recI xs) rfl HI.out.own _ _ m3 _ (flat recI ys) rfl HRD.out ?c1 z1 z2 HI.out.bel.size ?_)
          case c1 => exact flatI_oneB _
          intro v7 w7 hown hgr hat
        · have HN := Lib.hid (HI.out.next (b' := false) HX.out HY.out HNF.out HML.out hm3 HFR6.out HAB.out.symm (Bool.false_and _).symm hown hgr hat)
          clear hown hgr hat
          go_wp2_with fail
          go_roundw
          case rel => exact ⟨i + 1, m + m3, _, _, by omega, by go_num, rfl, HN.out⟩
          case measure => simp [intOf]; omega
        · have HN := Lib.hid (HI.out.next (b' := (ofS l k).2) HX.out HY.out HNF.out HML.out hm3 HFR6.out HAB.out.symm (Bool.true_and _).symm hown hgr hat)
          clear hown hgr hat
          go_wp2_with fail
          go_roundw
          case rel => exact ⟨i + 1, m + m3, _, _, by omega, by go_num, rfl, HN.out⟩
          case measure => simp [intOf]; omega
      · have HE : Hid (orS (p.kids.map (ofS l)) = (allS, false)) := Lib.hid (orS_all (List.mem_map_of_mem HMK.out) HAB.out.symm)
        go_wp2_with fail
        refine (allF_any w6).mono ?_
        rintro e w3 ⟨A9, m9, c9, zs, nf9, rfl, hy, hnf, hmk, hsi, hb3, hfr⟩
        have HNO := Lib.hid (show OfOk (allS, false) 1 w6 (.returned (.tuple #[.slice A9 m9 c9, .bool false])) w3 from ⟨A9, m9, c9, zs, nf9, rfl, hy, hnf, hmk, hsi, hb3, hfr⟩)
        clear hy hnf hmk hsi hb3 hfr
        go_wp2_with fail
        go_ret2
        rw [HE.out]
        exact HNO.out.up HI.out.bel (by have := HSZ.out; omega)
    · obtain rfl : i = p.kn := by omega
      have HTK : p.kids.take p.kn = p.kids := List.take_of_length_le (by have := HKN.out; omega)
      have HE : Hid (orS (p.kids.map (ofS l)) = (fun a => inS cmC a (spansL (xs.map ivP)), bx)) := by
        have h1 := HI.out.no
        have h2 := HI.out.set
        have h3 := HI.out.ex
        rw [HTK] at h1 h2 h3
        rw [Hid, orS_none h1, ← h3]
        exact congrArg (fun s => (s, bx)) (funext fun a => propext (h2 a).symm)
      obtain ⟨A7, c7, e7, hs7⟩ := SI.of_own HI.out.own HI.out.ln (by have h4 := HZ.out; have h5 := HM.out; unfold reach; omega) (fun x hx => ⟨(HI.out.fr x hx).1.mono fun _ _ => trivial, (HI.out.fr x hx).2.mono fun _ _ => trivial⟩)
      injection e7 with e7a _ e7c
      subst e7a e7c
      have HSI := Lib.hid hs7
      have HMZ : Hid (m ≤ 1000000000) := Lib.hid (by have h4 := HZ.out; have h5 := HM.out; omega)
      have BE := Lib.hid HI.out.bel
      clear hs7 HI HTK
      go_wp2_with fail
      refine (normalF_any xs _ m _ wr (HT.out.step BE.out) HSI.out HMZ.out).mono ?_
      rintro e w3 ⟨A9, m9, c9, zs, nf9, rfl, hy, hnf, hmk, hsi, hb3, hfr⟩
      have HNO := Lib.hid (show OfOk (fun a => inS cmC a (spansL (xs.map ivP)), bx) m wr (.returned (.tuple #[.slice A9 m9 c9, .bool bx])) w3 from ⟨A9, m9, c9, zs, nf9, rfl, hy, hnf, hmk, hsi, hb3, hfr⟩)
      clear hy hnf hmk hsi hb3 hfr
      go_wp2_with fail
      go_ret2
      rw [HE.out]
      exact HNO.out.up BE.out (by have := HM.out; omega)
end Go.Proofs.YtfkapannahcjiaaGreatDoor



/- bounds.kindRange at the kind that has no range. -/
namespace Go.Proofs.YtfkapannahcjiaaGreatDoor
open Go.RowKit
set_option linter.unusedSimpArgs false

set_option maxRecDepth 100000 in
set_option maxHeartbeats 8000000 in
theorem kindRange6 (w : World) : Calls Tryz.prog 60 #[.int .i64 6] w fun e w' => e = .returned (.tuple #[aggI zI, .bool false]) ∧ Below w.heap.size w w' := by
  go_enter Tryz.func60, Tryz.ntmps60
  have B0 : Hid (Blk ((w.alloc (Obj.cells (arrI zI) 67)).alloc (Obj.cells (arrI (((cLf 6 0 ByteArray.empty, vKd 6), (cLf 6 0 ByteArray.empty, vKd 6)), (true, true))) 67)) w.heap.size 67 (arrI zI)) := (Blk.new_at rfl).alloc _
  have BE : Hid (Below w.heap.size w ((w.alloc (Obj.cells (arrI zI) 67)).alloc (Obj.cells (arrI (((cLf 6 0 ByteArray.empty, vKd 6), (cLf 6 0 ByteArray.empty, vKd 6)), (true, true))) 67))) := ((Below.refl _ _).alloc (Nat.le_refl _) _).alloc (by simp) _
  go_upto_region 2 with fail
  change Code.wp _ _ _ _ ((w.alloc (Obj.cells (arrI zI) 67)).alloc (Obj.cells (arrI (((cLf 6 0 ByteArray.empty, vKd 6), (cLf 6 0 ByteArray.empty, vKd 6)), (true, true))) 67))
  generalize ((w.alloc (Obj.cells (arrI zI) 67)).alloc (Obj.cells (arrI (((cLf 6 0 ByteArray.empty, vKd 6), (cLf 6 0 ByteArray.empty, vKd 6)), (true, true))) 67)) = wa at *
  have hmk := make12 wa
  have hcv := conv12 wa
  go_upto_region 3 with fail
  change Code.wp _ _ _ _ ((wa.alloc (.cells twelve0 5)).alloc (Obj.cells (cLf 8 0 zero12).arr 29))
  replace B0 := Lib.hid ((B0.out.alloc (.cells twelve0 5)).alloc (Obj.cells (cLf 8 0 zero12).arr 29))
  replace BE := Lib.hid ((BE.out.alloc BE.out.size (.cells twelve0 5)).alloc (by have := BE.out.size; simp; omega) (Obj.cells (cLf 8 0 zero12).arr 29))
  clear hmk hcv
  generalize ((wa.alloc (.cells twelve0 5)).alloc (Obj.cells (cLf 8 0 zero12).arr 29)) = wb at *
  have HALL : Hid ((arrI zI).all (·.oneCell') = true) := by rw [Hid]; simp [Value.oneCell']
  go_wp2_with ((with_reducible show wpList _ _ _ (⟨_, .store 67 _ _, _, _, _, _⟩ :: _) _ _); refine wpList_store_row rfl 67 _ _ rfl w.heap.size (arrI zI) rfl rfl 67 _ B0.out (by kernel_rfl) rfl HALL.out ?_)
  exact bodyPost_ret (results_ivb rfl _ _ rfl _ rfl _ (arrI zI) rfl (blk_row B0.out (arrI zI))) rfl ⟨rfl, bel_row BE.out (Nat.le_refl _) _⟩
end Go.Proofs.YtfkapannahcjiaaGreatDoor



/- bounds.Of at every predicate. Printed by gen_boof.py. -/
namespace Go.Proofs.YtfkapannahcjiaaGreatDoor
open Go.RowKit
set_option linter.unusedSimpArgs false

set_option maxRecDepth 100000 in
set_option maxHeartbeats 8000000 in
theorem of_and (p : PrT) (ih : ∀ k ∈ p.kids, OfAt k) (h : p.op = 20) : OfAt p := by
  intro A n c l w hw hv hT hl hz
  rw [ofS_and h]
  have HA : Hid (∀ wr, Below w.heap.size w wr → Calls Tryz.prog 55 #[aggPr p, .slice A n c] wr (OfOk (andS (p.kids.map (ofS l))) p.sz wr)) := Lib.hid fun wr hb => ofAnd_any p ih A n c l wr (hw.step hb) (hv.open.kids (.inl h)) (hT.step hb) (hl.step hb) hz
  clear hw hv hT hl hz ih
  obtain ⟨r, hr⟩ : ∃ r, r = andS (p.kids.map (ofS l)) := ⟨_, rfl⟩
  rw [← hr] at HA ⊢
  clear hr
  have B0 : Hid (Blk (w.alloc (Obj.cells (arrPr p) 38)) w.heap.size 38 (arrPr p)) := Blk.new_at rfl
  have BE := Lib.hid ((Below.refl w.heap.size w).alloc (Nat.le_refl _) (Obj.cells (arrPr p) 38))
  go_enter Tryz.func22, Tryz.ntmps22
  go_upto_region 1 with fail
  change Code.wp _ _ _ _ (w.alloc (Obj.cells (arrPr p) 38))
  generalize w.alloc (Obj.cells (arrPr p) 38) = wa at *
  obtain ⟨d0, d1, _, _, _, _, _, _⟩ := pr_cells B0.out
  rw [h] at d0
  have RG := Lib.hid (pr_full B0.out)
  go_wp2_with ((with_reducible show wpList _ _ _ (⟨_, .load 38 _, _, _, _, _⟩ :: _) _ _); refine wpList_mid_w rfl 38 _ rfl w.heap.size 0 rfl _ _ RG.out Tryz.underlying38 rfl (by kernel_rfl) ?_)
  refine (HA.out _ BE.out).mono ?_
  rintro e w1 ⟨A3, m3, c3, ys, nf, rfl, hy, hnf, hmk, hsi, hb3, hfr⟩
  have HNO := Lib.hid (show OfOk r p.sz wa (.returned (.tuple #[.slice A3 m3 c3, .bool r.2])) w1 from ⟨A3, m3, c3, ys, nf, rfl, hy, hnf, hmk, hsi, hb3, hfr⟩)
  clear hy hnf hmk hsi hb3 hfr
  go_wp2_with fail
  go_ret2
  exact HNO.out.up BE.out (Nat.le_refl _)
set_option maxRecDepth 100000 in
set_option maxHeartbeats 8000000 in
theorem of_or (p : PrT) (ih : ∀ k ∈ p.kids, OfAt k) (h : p.op = 21) : OfAt p := by
  intro A n c l w hw hv hT hl hz
  rw [ofS_or h]
  have HA : Hid (∀ wr, Below w.heap.size w wr → Calls Tryz.prog 56 #[aggPr p, .slice A n c] wr (OfOk (orS (p.kids.map (ofS l))) p.sz wr)) := Lib.hid fun wr hb => ofOr_any p ih A n c l wr (hw.step hb) (hv.open.kids (.inr h)) (hT.step hb) (hl.step hb) hz (hv.open.ne (.inr h))
  clear hw hv hT hl hz ih
  obtain ⟨r, hr⟩ : ∃ r, r = orS (p.kids.map (ofS l)) := ⟨_, rfl⟩
  rw [← hr] at HA ⊢
  clear hr
  have B0 : Hid (Blk (w.alloc (Obj.cells (arrPr p) 38)) w.heap.size 38 (arrPr p)) := Blk.new_at rfl
  have BE := Lib.hid ((Below.refl w.heap.size w).alloc (Nat.le_refl _) (Obj.cells (arrPr p) 38))
  go_enter Tryz.func22, Tryz.ntmps22
  go_upto_region 1 with fail
  change Code.wp _ _ _ _ (w.alloc (Obj.cells (arrPr p) 38))
  generalize w.alloc (Obj.cells (arrPr p) 38) = wa at *
  obtain ⟨d0, d1, _, _, _, _, _, _⟩ := pr_cells B0.out
  rw [h] at d0
  have RG := Lib.hid (pr_full B0.out)
  go_wp2_with ((with_reducible show wpList _ _ _ (⟨_, .load 38 _, _, _, _, _⟩ :: _) _ _); refine wpList_mid_w rfl 38 _ rfl w.heap.size 0 rfl _ _ RG.out Tryz.underlying38 rfl (by kernel_rfl) ?_)
  refine (HA.out _ BE.out).mono ?_
  rintro e w1 ⟨A3, m3, c3, ys, nf, rfl, hy, hnf, hmk, hsi, hb3, hfr⟩
  have HNO := Lib.hid (show OfOk r p.sz wa (.returned (.tuple #[.slice A3 m3 c3, .bool r.2])) w1 from ⟨A3, m3, c3, ys, nf, rfl, hy, hnf, hmk, hsi, hb3, hfr⟩)
  clear hy hnf hmk hsi hb3 hfr
  go_wp2_with fail
  go_ret2
  exact HNO.out.up BE.out (Nat.le_refl _)
theorem sameP_iff {l m : List ByteArray} : sameP l m = true ↔ l = m := by
  induction l generalizing m with
  | nil => cases m <;> simp [sameP]
  | cons x r ih =>
    cases m with
    | nil => simp [sameP]
    | cons y s =>
      rw [sameP, Bool.and_eq_true, ih, List.cons.injEq, beq_iff_eq]
      constructor
      · rintro ⟨h1, h2⟩
        exact ⟨ByteArray.ext (Array.toList_inj.1 (by rw [Go.ByteArray.toList_eq, Go.ByteArray.toList_eq] at h1; exact h1)), h2⟩
      · rintro ⟨rfl, rfl⟩
        exact ⟨rfl, rfl⟩
set_option maxRecDepth 100000 in
set_option maxHeartbeats 8000000 in
theorem of_else (p : PrT) (h : p.op ≠ 20) (h' : p.op ≠ 21) (A : Option Addr) (n c : Nat) (l : List ByteArray) (w : World) (hw : WP w p) (hl : ST w A n c l) (hp : p.path.xs ≠ l) :
    Calls Tryz.prog 22 #[aggPr p, .slice A n c] w (OfOk (allS, false) p.sz w) := by
  have HE : Hid (∀ wr, Below w.heap.size w wr → Calls Tryz.prog 57 #[.slice p.path.A p.path.n p.path.c, .slice A n c] wr fun e w' => e = .returned (.bool (sameP p.path.xs l)) ∧ Below wr.heap.size wr w') := Lib.hid fun wr hb => equal_any p.path.xs l p.path.A A p.path.n p.path.c n c wr (hw.open.path.step hb) (hl.step hb)
  have hs : sameP p.path.xs l = false := by
    rw [← Bool.not_eq_true, sameP_iff]
    exact hp
  rw [hs] at HE
  have HSZ : Hid (1 ≤ p.sz) := by rw [Hid, p.sz_eq]; omega
  clear hw hl hs hp
  have B0 : Hid (Blk (w.alloc (Obj.cells (arrPr p) 38)) w.heap.size 38 (arrPr p)) := Blk.new_at rfl
  have BE := Lib.hid ((Below.refl w.heap.size w).alloc (Nat.le_refl _) (Obj.cells (arrPr p) 38))
  go_enter Tryz.func22, Tryz.ntmps22
  go_upto_region 1 with fail
  change Code.wp _ _ _ _ (w.alloc (Obj.cells (arrPr p) 38))
  generalize w.alloc (Obj.cells (arrPr p) 38) = wa at *
  obtain ⟨d0, d1, _, _, _, _, _, _⟩ := pr_cells B0.out
  have g20 : (p.op == 20) = false := by simpa using h
  have g21 : (p.op == 21) = false := by simpa using h'
  clear h h'
  go_wp2_with fail
  refine (HE.out _ BE.out).mono ?_
  rintro e w1 ⟨rfl, hb⟩
  replace BE := Lib.hid (BE.out.step' hb)
  clear hb d0 d1 HE B0
  go_wp2_with fail
  refine (allF_any _).mono ?_
  rintro e w2 ⟨A3, m3, c3, ys, nf, rfl, hy, hnf, hmk, hsi, hb3, hfr⟩
  have HNO := Lib.hid (show OfOk (allS, false) 1 w1 (.returned (.tuple #[.slice A3 m3 c3, .bool false])) w2 from ⟨A3, m3, c3, ys, nf, rfl, hy, hnf, hmk, hsi, hb3, hfr⟩)
  clear hy hnf hmk hsi hb3 hfr
  go_wp2_with fail
  go_ret2
  exact HNO.out.up BE.out HSZ.out
set_option maxRecDepth 100000 in
set_option maxHeartbeats 8000000 in
theorem of_in (p : PrT) (h : p.op = 8) (A : Option Addr) (n c : Nat) (l : List ByteArray) (w : World) (hw : WP w p) (hl : ST w A n c l) (hp : p.path.xs = l) (r : PSet) (hr : ∀ wr, Below w.heap.size w wr → Calls Tryz.prog 63 #[aggPr p] wr (OfOk r p.sz wr)) :
    Calls Tryz.prog 22 #[aggPr p, .slice A n c] w (OfOk r p.sz w) := by
  have HE : Hid (∀ wr, Below w.heap.size w wr → Calls Tryz.prog 57 #[.slice p.path.A p.path.n p.path.c, .slice A n c] wr fun e w' => e = .returned (.bool (sameP p.path.xs l)) ∧ Below wr.heap.size wr w') := Lib.hid fun wr hb => equal_any p.path.xs l p.path.A A p.path.n p.path.c n c wr (hw.open.path.step hb) (hl.step hb)
  rw [sameP_iff.2 hp] at HE
  have HA := Lib.hid hr
  clear hw hl hp hr
  have B0 : Hid (Blk (w.alloc (Obj.cells (arrPr p) 38)) w.heap.size 38 (arrPr p)) := Blk.new_at rfl
  have BE := Lib.hid ((Below.refl w.heap.size w).alloc (Nat.le_refl _) (Obj.cells (arrPr p) 38))
  go_enter Tryz.func22, Tryz.ntmps22
  go_upto_region 1 with fail
  change Code.wp _ _ _ _ (w.alloc (Obj.cells (arrPr p) 38))
  generalize w.alloc (Obj.cells (arrPr p) 38) = wa at *
  obtain ⟨d0, d1, _, _, _, _, _, _⟩ := pr_cells B0.out
  rw [h] at d0
  go_wp2_with fail
  refine (HE.out _ BE.out).mono ?_
  rintro e w1 ⟨rfl, hb⟩
  replace BE := Lib.hid (BE.out.step' hb)
  replace B0 := Lib.hid (B0.out.step hb)
  clear hb d0 d1 HE
  obtain ⟨d0, _, _, _, _, _, _, _⟩ := pr_cells B0.out
  rw [h] at d0
  have RG := Lib.hid (pr_full B0.out)
  go_wp2_with ((with_reducible show wpList _ _ _ (⟨_, .load 38 _, _, _, _, _⟩ :: _) _ _); refine wpList_mid_w rfl 38 _ rfl w.heap.size 0 rfl _ _ RG.out Tryz.underlying38 rfl (by kernel_rfl) ?_)
  refine (HA.out _ BE.out).mono ?_
  rintro e w2 ⟨A3, m3, c3, ys, nf, rfl, hy, hnf, hmk, hsi, hb3, hfr⟩
  have HNO := Lib.hid (show OfOk r p.sz w1 (.returned (.tuple #[.slice A3 m3 c3, .bool r.2])) w2 from ⟨A3, m3, c3, ys, nf, rfl, hy, hnf, hmk, hsi, hb3, hfr⟩)
  clear hy hnf hmk hsi hb3 hfr
  go_wp2_with fail
  go_ret2
  exact HNO.out.up BE.out (Nat.le_refl _)
set_option maxRecDepth 100000 in
set_option maxHeartbeats 8000000 in
theorem of_pre (p : PrT) (h : p.op = 16) (A : Option Addr) (n c : Nat) (l : List ByteArray) (w : World) (hw : WP w p) (hl : ST w A n c l) (hp : p.path.xs = l) (r : PSet) (hr : ∀ wr, Below w.heap.size w wr → Calls Tryz.prog 64 #[aggPr p] wr (OfOk r p.sz wr)) :
    Calls Tryz.prog 22 #[aggPr p, .slice A n c] w (OfOk r p.sz w) := by
  have HE : Hid (∀ wr, Below w.heap.size w wr → Calls Tryz.prog 57 #[.slice p.path.A p.path.n p.path.c, .slice A n c] wr fun e w' => e = .returned (.bool (sameP p.path.xs l)) ∧ Below wr.heap.size wr w') := Lib.hid fun wr hb => equal_any p.path.xs l p.path.A A p.path.n p.path.c n c wr (hw.open.path.step hb) (hl.step hb)
  rw [sameP_iff.2 hp] at HE
  have HA := Lib.hid hr
  clear hw hl hp hr
  have B0 : Hid (Blk (w.alloc (Obj.cells (arrPr p) 38)) w.heap.size 38 (arrPr p)) := Blk.new_at rfl
  have BE := Lib.hid ((Below.refl w.heap.size w).alloc (Nat.le_refl _) (Obj.cells (arrPr p) 38))
  go_enter Tryz.func22, Tryz.ntmps22
  go_upto_region 1 with fail
  change Code.wp _ _ _ _ (w.alloc (Obj.cells (arrPr p) 38))
  generalize w.alloc (Obj.cells (arrPr p) 38) = wa at *
  obtain ⟨d0, d1, _, _, _, _, _, _⟩ := pr_cells B0.out
  rw [h] at d0
  go_wp2_with fail
  refine (HE.out _ BE.out).mono ?_
  rintro e w1 ⟨rfl, hb⟩
  replace BE := Lib.hid (BE.out.step' hb)
  replace B0 := Lib.hid (B0.out.step hb)
  clear hb d0 d1 HE
  obtain ⟨d0, _, _, _, _, _, _, _⟩ := pr_cells B0.out
  rw [h] at d0
  have RG := Lib.hid (pr_full B0.out)
  go_wp2_with ((with_reducible show wpList _ _ _ (⟨_, .load 38 _, _, _, _, _⟩ :: _) _ _); refine wpList_mid_w rfl 38 _ rfl w.heap.size 0 rfl _ _ RG.out Tryz.underlying38 rfl (by kernel_rfl) ?_)
  refine (HA.out _ BE.out).mono ?_
  rintro e w2 ⟨A3, m3, c3, ys, nf, rfl, hy, hnf, hmk, hsi, hb3, hfr⟩
  have HNO := Lib.hid (show OfOk r p.sz w1 (.returned (.tuple #[.slice A3 m3 c3, .bool r.2])) w2 from ⟨A3, m3, c3, ys, nf, rfl, hy, hnf, hmk, hsi, hb3, hfr⟩)
  clear hy hnf hmk hsi hb3 hfr
  go_wp2_with fail
  go_ret2
  exact HNO.out.up BE.out (Nat.le_refl _)
set_option maxRecDepth 100000 in
set_option maxHeartbeats 8000000 in
theorem of_other (p : PrT) (h : p.op ≠ 20 ∧ p.op ≠ 21 ∧ p.op ≠ 2 ∧ p.op ≠ 4 ∧ p.op ≠ 5 ∧ p.op ≠ 6 ∧ p.op ≠ 7 ∧ p.op ≠ 8 ∧ p.op ≠ 16 ∧ p.op ≠ 11) (A : Option Addr) (n c : Nat) (l : List ByteArray) (w : World) (hw : WP w p) (hl : ST w A n c l) (hp : p.path.xs = l) :
    Calls Tryz.prog 22 #[aggPr p, .slice A n c] w (OfOk (allS, false) p.sz w) := by
  have HE : Hid (∀ wr, Below w.heap.size w wr → Calls Tryz.prog 57 #[.slice p.path.A p.path.n p.path.c, .slice A n c] wr fun e w' => e = .returned (.bool (sameP p.path.xs l)) ∧ Below wr.heap.size wr w') := Lib.hid fun wr hb => equal_any p.path.xs l p.path.A A p.path.n p.path.c n c wr (hw.open.path.step hb) (hl.step hb)
  rw [sameP_iff.2 hp] at HE
  have HSZ : Hid (1 ≤ p.sz) := by rw [Hid, p.sz_eq]; omega
  clear hw hl hp
  have B0 : Hid (Blk (w.alloc (Obj.cells (arrPr p) 38)) w.heap.size 38 (arrPr p)) := Blk.new_at rfl
  have BE := Lib.hid ((Below.refl w.heap.size w).alloc (Nat.le_refl _) (Obj.cells (arrPr p) 38))
  go_enter Tryz.func22, Tryz.ntmps22
  go_upto_region 1 with fail
  change Code.wp _ _ _ _ (w.alloc (Obj.cells (arrPr p) 38))
  generalize w.alloc (Obj.cells (arrPr p) 38) = wa at *
  obtain ⟨d0, d1, _, _, _, _, _, _⟩ := pr_cells B0.out
  obtain ⟨h1, h2, h3, h4, h5, h6, h7, h8, h9, h10⟩ := h
  have g1 : (p.op == 20) = false := by simpa using h1
  have g2 : (p.op == 21) = false := by simpa using h2
  have g3 : (p.op == 2) = false := by simpa using h3
  have g4 : (p.op == 4) = false := by simpa using h4
  have g5 : (p.op == 5) = false := by simpa using h5
  have g6 : (p.op == 6) = false := by simpa using h6
  have g7 : (p.op == 7) = false := by simpa using h7
  have g8 : (p.op == 8) = false := by simpa using h8
  have g9 : (p.op == 16) = false := by simpa using h9
  have g10 : (p.op == 11) = false := by simpa using h10
  clear h1 h2 h3 h4 h5 h6 h7 h8 h9 h10
  go_wp2_with fail
  refine (HE.out _ BE.out).mono ?_
  rintro e w1 ⟨rfl, hb⟩
  replace BE := Lib.hid (BE.out.step' hb)
  replace B0 := Lib.hid (B0.out.step hb)
  clear hb d0 d1 HE
  obtain ⟨d0, _, _, _, _, _, _, _⟩ := pr_cells B0.out
  go_wp2_with fail
  refine (allF_any _).mono ?_
  rintro e w2 ⟨A3, m3, c3, ys, nf, rfl, hy, hnf, hmk, hsi, hb3, hfr⟩
  have HNO := Lib.hid (show OfOk (allS, false) 1 w1 (.returned (.tuple #[.slice A3 m3 c3, .bool false])) w2 from ⟨A3, m3, c3, ys, nf, rfl, hy, hnf, hmk, hsi, hb3, hfr⟩)
  clear hy hnf hmk hsi hb3 hfr
  go_wp2_with fail
  go_ret2
  exact HNO.out.up BE.out HSZ.out
end Go.Proofs.YtfkapannahcjiaaGreatDoor



/- bounds.Of at an equal. Printed by gen_boofb.py. -/
namespace Go.Proofs.YtfkapannahcjiaaGreatDoor
open Go.RowKit
set_option linter.unusedSimpArgs false

set_option maxRecDepth 100000 in
set_option maxHeartbeats 8000000 in
theorem of_eqv (p : PrT) (h : p.op = 2) (A : Option Addr) (n c : Nat) (l : List ByteArray) (w : World) (hw : WP w p) (hT : Tabs w) (hl : ST w A n c l) (hp : p.path.xs = l) :
    Calls Tryz.prog 22 #[aggPr p, .slice A n c] w (OfOk (leafS 2 p.arg.2 (p.args.xs.map Prod.snd) p.n) p.sz w) := by
  have HE : Hid (∀ wr, Below w.heap.size w wr → Calls Tryz.prog 57 #[.slice p.path.A p.path.n p.path.c, .slice A n c] wr fun e w' => e = .returned (.bool (sameP p.path.xs l)) ∧ Below wr.heap.size wr w') := Lib.hid fun wr hb => equal_any p.path.xs l p.path.A A p.path.n p.path.c n c wr (hw.open.path.step hb) (hl.step hb)
  rw [sameP_iff.2 hp] at HE
  have HT := Lib.hid hT
  have HSZ : Hid (1 ≤ p.sz) := by rw [Hid, p.sz_eq]; omega
  have HX := Lib.hid hw.open.arg
  have HK : Hid (p.arg.1.k = p.arg.2.k) := Lib.hid hw.open.arg.open.k
  clear hw hT hl hp
  have B0 : Hid (Blk (w.alloc (Obj.cells (arrPr p) 38)) w.heap.size 38 (arrPr p)) := Blk.new_at rfl
  have BE := Lib.hid ((Below.refl w.heap.size w).alloc (Nat.le_refl _) (Obj.cells (arrPr p) 38))
  go_enter Tryz.func22, Tryz.ntmps22
  go_upto_region 1 with fail
  change Code.wp _ _ _ _ (w.alloc (Obj.cells (arrPr p) 38))
  generalize w.alloc (Obj.cells (arrPr p) 38) = wa at *
  obtain ⟨d0, d1, _, _, _, _, _, _⟩ := pr_cells B0.out
  rw [h] at d0
  go_wp2_with fail
  refine (HE.out _ BE.out).mono ?_
  rintro e w1 ⟨rfl, hb⟩
  replace BE := Lib.hid (BE.out.step' hb)
  replace B0 := Lib.hid (B0.out.step hb)
  clear hb d0 d1 HE
  obtain ⟨d0, _, _, _, _, _, _, _⟩ := pr_cells B0.out
  rw [h] at d0
  clear h
  have f2 := (range_parg B0.out) 0 _ rfl
  have f3 := (range_parg B0.out) 1 _ rfl
  have f4 := (range_parg B0.out) 2 _ rfl
  have f5 := (range_parg B0.out) 3 _ rfl
  have f6 := (range_parg B0.out) 4 _ rfl
  simp only [Nat.reduceAdd] at f2 f3 f4 f5 f6
  by_cases h6 : p.arg.1.k = 6
  · have HL : Hid (leafS 2 p.arg.2 (p.args.xs.map Prod.snd) p.n = (allS, false)) := Lib.hid (leafS_none (leafI_eq6 (by rw [← HK.out]; exact h6)))
    have k6 : (p.arg.1.k != 6) = false := by simpa using h6
    clear h6
    go_wp2_with fail
    refine (allF_any _).mono ?_
    rintro e w2 ⟨A3, m3, c3, ys, nf, rfl, hy, hnf, hmk, hsi, hb3, hfr⟩
    have HNO := Lib.hid (show OfOk (allS, false) 1 w1 (.returned (.tuple #[.slice A3 m3 c3, .bool false])) w2 from ⟨A3, m3, c3, ys, nf, rfl, hy, hnf, hmk, hsi, hb3, hfr⟩)
    clear hy hnf hmk hsi hb3 hfr
    go_wp2_with fail
    go_ret2
    rw [HL.out]
    exact HNO.out.up BE.out HSZ.out
  · have HL : Hid (leafS 2 p.arg.2 (p.args.xs.map Prod.snd) p.n = ((fun a => inS cmC a (spansL ([p.arg].map fun q => ptIv q.2))), decide (p.arg.2.k ≠ 2))) := by
      rw [Hid, leafS_some (leafI_eq (by rw [← HK.out]; exact h6))]
      rfl
    have k6 : (p.arg.1.k != 6) = true := by simpa using h6
    clear h6
    obtain ⟨b2, hb2⟩ : ∃ b, b = decide (p.arg.2.k ≠ 2) := ⟨_, rfl⟩
    rw [← hb2] at HL
    have k2 : (p.arg.1.k != 2) = b2 := by rw [hb2, HK.out, Bool.eq_iff_iff]; simp
    clear hb2
    go_upto_region 11 with fail
    have B := Lib.hid ((Below.refl w1.heap.size w1).drewN 1)
    have KS : Hid (∀ w', Below w1.heap.size w1 w' → w'.cell? ⟨w.heap.size, 2, none⟩ = some (.int .i64 p.arg.1.k) ∧ w'.cell? ⟨w.heap.size, 3, none⟩ = some (.int .i64 p.arg.1.n) ∧ w'.cell? ⟨w.heap.size, 4, none⟩ = some (.string p.arg.1.t) ∧ w'.cell? ⟨w.heap.size, 5, none⟩ = some (.slice p.arg.1.LA p.arg.1.ln p.arg.1.lc) ∧ w'.cell? ⟨w.heap.size, 6, none⟩ = some (.slice p.arg.1.DA p.arg.1.dn p.arg.1.dc)) := Lib.hid fun w' hb => ⟨(hb.cell (p := ⟨w.heap.size, 2, none⟩) B0.out.lt).trans f2, (hb.cell (p := ⟨w.heap.size, 3, none⟩) B0.out.lt).trans f3, (hb.cell (p := ⟨w.heap.size, 4, none⟩) B0.out.lt).trans f4, (hb.cell (p := ⟨w.heap.size, 5, none⟩) B0.out.lt).trans f5, (hb.cell (p := ⟨w.heap.size, 6, none⟩) B0.out.lt).trans f6⟩
    clear f2 f3 f4 f5 f6 d0
    go_region_held3 (fun w' => w'.cell? ⟨w.heap.size, 2, none⟩ = some (.int .i64 p.arg.1.k) ∧ w'.cell? ⟨w.heap.size, 3, none⟩ = some (.int .i64 p.arg.1.n) ∧ w'.cell? ⟨w.heap.size, 4, none⟩ = some (.string p.arg.1.t) ∧ w'.cell? ⟨w.heap.size, 5, none⟩ = some (.slice p.arg.1.LA p.arg.1.ln p.arg.1.lc) ∧ w'.cell? ⟨w.heap.size, 6, none⟩ = some (.slice p.arg.1.DA p.arg.1.dn p.arg.1.dc))
      (first | exact KS.out _ B.out | exact KS.out _ (B.out.alloc B.out.size _) | ((try dsimp only); assumption) | go_keep)
      ((go_at_call 59; refine (pointsF_any [p.arg] _ 1 1 _ (HT.out.step (BE.out.step' (B.out.alloc B.out.size _))) (sl_one (Blk.new_at rfl) (HX.out.step (BE.out.step' (B.out.alloc B.out.size _)))) (by omega)).mono ?_; rintro e3 w3 ⟨A3, m3, c3, ys, nf, rfl, hy, hnf, hmk, hsi, hb3, hfr⟩; have HNO := Lib.hid (show OfOk ((fun a => inS cmC a (spansL ([p.arg].map fun q => ptIv q.2))), b2) 1 _ (.returned (.tuple #[.slice A3 m3 c3, .bool b2])) w3 from ⟨A3, m3, c3, ys, nf, rfl, hy, hnf, hmk, hsi, hb3, hfr⟩); replace HNO := Lib.hid (HNO.out.up (B.out.alloc B.out.size _) (Nat.le_refl _)); replace B := Lib.hid ((B.out.alloc B.out.size _).step' hb3); clear hy hnf hmk hsi hb3 hfr))
    all_goals
      go_wp2_with fail
      go_ret2
      rw [HL.out]
      exact HNO.out.up BE.out HSZ.out
end Go.Proofs.YtfkapannahcjiaaGreatDoor


