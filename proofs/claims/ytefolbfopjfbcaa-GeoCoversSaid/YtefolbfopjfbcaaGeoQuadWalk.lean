/- The contract of the reference's Quadrant. -/
import Derived.Test.YtefolbfopjfbcaaGeoCover
namespace Go.Proofs.Ytefolbfopjfbcaa
open Go.RowKit

structure QuI (w : World) (sh : Array Value) (g1 g2 : Nat) (b : Box) (wr : World) : Prop where
  b0 : Blk wr w.heap.size 35 sh
  b1 : Blk wr g1 27 #[.int .i64 b.1, .int .i64 b.2.1]
  b2 : Blk wr g2 27 #[.int .i64 b.2.2.1, .int .i64 b.2.2.2]
  h1 : w.heap.size < g1
  h2 : w.heap.size < g2
  ne : g1 ≠ g2
  bel : Below w.heap.size w wr
theorem QuI.alloc {w wr : World} {sh : Array Value} {g1 g2 : Nat} {b : Box} (h : QuI w sh g1 g2 b wr) (o : Obj) : QuI w sh g1 g2 b (wr.alloc o) := ⟨h.b0.alloc _, h.b1.alloc _, h.b2.alloc _, h.h1, h.h2, h.ne, h.bel.alloc h.bel.size _⟩
theorem QuI.put1 {w wr : World} {sh : Array Value} {g1 g2 : Nat} {b : Box} (h : QuI w sh g1 g2 b wr) (x y : Int) : QuI w sh g1 g2 (x, y, b.2.2.1, b.2.2.2) ((wr.setCell ⟨g1, 0, none⟩ (.int .i64 x)).setCell ⟨g1, 1, none⟩ (.int .i64 y)) := by
  have n1 : w.heap.size ≠ g1 := by have := h.h1; omega
  exact ⟨(h.b0.far n1 _).far n1 _, (h.b1.set_ 0 _).set_ 1 _, (h.b2.far h.ne.symm _).far h.ne.symm _, h.h1, h.h2, h.ne, (h.bel.setCell (by have := h.h1; show w.heap.size ≤ g1; omega) _).setCell (by have := h.h1; show w.heap.size ≤ g1; omega) _⟩
theorem QuI.put2 {w wr : World} {sh : Array Value} {g1 g2 : Nat} {b : Box} (h : QuI w sh g1 g2 b wr) (x y : Int) : QuI w sh g1 g2 (b.1, b.2.1, x, y) ((wr.setCell ⟨g2, 0, none⟩ (.int .i64 x)).setCell ⟨g2, 1, none⟩ (.int .i64 y)) := by
  have n1 : w.heap.size ≠ g2 := by have := h.h2; omega
  exact ⟨(h.b0.far n1 _).far n1 _, (h.b1.far h.ne _).far h.ne _, (h.b2.set_ 0 _).set_ 1 _, h.h1, h.h2, h.ne, (h.bel.setCell (by have := h.h2; show w.heap.size ≤ g2; omega) _).setCell (by have := h.h2; show w.heap.size ≤ g2; omega) _⟩
theorem QuI.eq {w wr : World} {sh : Array Value} {g1 g2 : Nat} {b b' : Box} (e : b' = b) (h : QuI w sh g1 g2 b wr) : QuI w sh g1 g2 b' wr := by rw [e]; exact h
theorem QuI.step {w wr w' : World} {sh : Array Value} {g1 g2 : Nat} {b : Box} (h : QuI w sh g1 g2 b wr) (hb : Below wr.heap.size wr w') : QuI w sh g1 g2 b w' := ⟨h.b0.step hb, h.b1.step hb, h.b2.step hb, h.h1, h.h2, h.ne, h.bel.step' hb⟩

theorem cellI_nat {X Y : Nat} (hx : X < 65536) (hy : Y < 65536) : cellI (X : Int) (Y : Int) = ((cellN 16 X Y : Nat) : Int) := by
  unfold cellI
  rw [if_pos]
  · simp
  · unfold pointB coordB; simp; omega
theorem tdiv_nat (a P : Nat) : (a : Int).tdiv (P : Int) = ((a / P : Nat) : Int) := by rw [Int.tdiv_eq_ediv_of_nonneg (Int.natCast_nonneg a)]; push_cast; rfl
theorem wrap_nat {a : Nat} (h : a < 65536) : wrap64 (a : Int) = (a : Int) := by unfold wrap64; omega
theorem div_le' (a P : Nat) (h : a < 65536) : a / P < 65536 := Nat.lt_of_le_of_lt (Nat.div_le_self a P) h

theorem quad_end_facts {a b c d kk P va vc : Nat} (hP : P = 2 ^ kk) (hK : kOf a b c d = kk) (hva : va = a / P) (hvc : vc = c / P) (ha : a < 65536) (hc : c < 65536) :
    ∃ X Y C PP : Nat, (va : Int) * (P : Int) = (X : Int) ∧ (vc : Int) * (P : Int) = (Y : Int) ∧ wrap64 (X : Int) = (X : Int) ∧ wrap64 (Y : Int) = (Y : Int) ∧ (P : Int) * (P : Int) = (PP : Int)
      ∧ cellI (X : Int) (Y : Int) = (C : Int) ∧ (0 : Int) < (PP : Int) ∧ (0 : Int) ≤ (C : Int) ∧ (C : Int) + (PP : Int) ≤ 4294967296 ∧ C = cell0 a b c d ∧ (C : Int) + (PP : Int) - 1 = ((cell0 a b c d + 4 ^ kOf a b c d - 1 : Nat) : Int) := by
  have hpos : 0 < P := by rw [hP]; exact Nat.two_pow_pos kk
  have hXl : va * P ≤ a := by rw [hva]; exact Nat.div_mul_le_self a P
  have hYl : vc * P ≤ c := by rw [hvc]; exact Nat.div_mul_le_self c P
  have hcell : cell0 a b c d = cellN 16 (va * P) (vc * P) := by rw [cell0, hK, hva, hvc, ← hP, Nat.mul_comm P, Nat.mul_comm P]
  have h44 : P * P = 4 ^ kOf a b c d := by rw [hK, hP, ← Nat.mul_pow]
  have htop : cell0 a b c d + 4 ^ kOf a b c d ≤ 4294967296 := quad_top (kOf_le a b c d)
  have ppos : 0 < P * P := Nat.mul_pos hpos hpos
  rw [← h44] at htop
  refine ⟨va * P, vc * P, cell0 a b c d, P * P, by push_cast; rfl, by push_cast; rfl, wrap_nat (by omega), wrap_nat (by omega), by push_cast; rfl, ?_, Int.ofNat_lt.2 ppos, Int.natCast_nonneg _, Int.ofNat_le.2 htop, rfl, ?_⟩
  · rw [hcell]; exact cellI_nat (by omega) (by omega)
  · rw [← h44]
    have e : cell0 a b c d + P * P - 1 + 1 = cell0 a b c d + P * P := by omega
    have e2 : ((cell0 a b c d + P * P - 1 : Nat) : Int) + 1 = ((cell0 a b c d : Nat) : Int) + ((P * P : Nat) : Int) := by rw [← Int.natCast_add, ← e]; rfl
    omega

set_option maxRecDepth 100000 in
set_option maxHeartbeats 2000000 in
theorem quad_any (k : Int) (A : Option Addr) (n cc : Nat) (r : Int) (ps : List (Int × Int)) (a b c d : Nat) (w : World) (h : RdPts w A n ps) (hc : cornersOf (bbTo (headP ps).1 (headP ps).2 ps) r = ((a : Int), (c : Int), (b : Int), (d : Int))) (h1 : a ≤ b) (h2 : b < 65536) (h3 : c ≤ d) (h4 : d < 65536)
    (h0 : ps[0]? = some (headP ps)) (hr0 : 0 ≤ r) (hr1 : r < 65536) (hps : ∀ p ∈ ps, pointB p.1 p.2 = true) (hn : n ≤ 64) :
    Calls Try.prog 22 #[shp k A n cc r] w fun e w' => e = .returned (.tuple #[.int .i64 (cell0 a b c d : Nat), .int .i64 ((cell0 a b c d + 4 ^ kOf a b c d - 1 : Nat) : Int)]) ∧ Below w.heap.size w w' := by
  obtain ⟨hl, hm, hr⟩ := h
  obtain ⟨⟨x0, y0⟩, hx0⟩ : ∃ p, p = headP ps := ⟨_, rfl⟩
  rw [← hx0] at h0 hc
  have hn0 : 0 < n := by have := (List.getElem?_eq_some_iff.1 h0).1; omega
  obtain ⟨bb, off, hA, hbb, hel⟩ := hr hn0
  subst hA
  have HE := Lib.hid hel
  have c0 := (hel 0 x0 y0 h0).1
  have c1 := (hel 0 x0 y0 h0).2
  rw [Nat.zero_mul, Nat.add_zero] at c0
  rw [Nat.zero_mul, Nat.add_zero] at c1
  have HL := Lib.hid hl
  have HC := Lib.hid hc
  have HP := Lib.hid hps
  have H0 := Lib.hid h0
  clear hl hm hr hel hc hps h0 hx0
  have lbb : bb < w.heap.size + 1 := by omega
  have lbc : bb < w.heap.size + 2 := by omega
  have nz : (0 : Int) < (n : Int) := by omega
  have n64 : (n : Int) ≤ 64 := by omega
  go_enter Try.func22, Try.ntmps22
  go_upto_region 1 with fail
  go_cut [4, 5] (fun s4 s5 wx => ∃ g1 g2 : Nat, s4 = .pointer (some ⟨g1, 0, none⟩) ∧ s5 = .pointer (some ⟨g2, 0, none⟩) ∧ QuI w #[.int .i64 k, .slice (some ⟨bb, off, none⟩) n cc, .int .i64 r] g1 g2 (x0, y0, x0, y0) wx)
  case first =>
    go_region
    all_goals (go_wp2_with fail; go_meet)
    all_goals first
      | exact ⟨w.heap.size + 1, w.heap.size + 2, rfl, rfl, QuI.step ⟨((Blk.new_at rfl).alloc _).alloc _, (Blk.new_at (by simp)).alloc _, Blk.new_at (by simp), by omega, by omega, by omega, (((Below.refl _ _).alloc (Nat.le_refl _) _).alloc (by simp) _).alloc (by simp; omega) _⟩ ((Below.refl _ _).drew)⟩
      | exact ⟨w.heap.size + 2, w.heap.size + 1, rfl, rfl, QuI.step ⟨((Blk.new_at rfl).alloc _).alloc _, Blk.new_at (by simp), (Blk.new_at (by simp)).alloc _, by omega, by omega, by omega, (((Below.refl _ _).alloc (Nat.le_refl _) _).alloc (by simp) _).alloc (by simp; omega) _⟩ ((Below.refl _ _).drew)⟩
  case rest =>
    obtain ⟨g1, g2, rfl, rfl, I⟩ := hcut
    have J0 := Lib.hid I
    have e1 := I.b0.cell 1
    simp at e1
    clear I c0 c1
    go_upto_region 3 with fail
    clear e1
    go_loopw [6] (fun v6 wr => ∃ i : Nat, i ≤ n ∧ v6 = .int .i64 i ∧ QuI w #[.int .i64 k, .slice (some ⟨bb, off, none⟩) n cc, .int .i64 r] g1 g2 (bbTo x0 y0 (ps.take i)) wr) (fun v6 _ => n - (intOf v6).toNat)
    case atStart => exact ⟨0, Nat.zero_le _, rfl, J0.out⟩
    case round =>
      obtain ⟨i, hi, rfl, I⟩ := hrel
      clear J0
      by_cases hlt : i < n
      · obtain ⟨⟨x, y⟩, hxy⟩ : ∃ p, ps[i]? = some p := ⟨_, List.getElem?_eq_getElem (by have := HL.out; omega)⟩
        obtain ⟨d0, d1⟩ := HE.out i x y hxy
        replace d0 := (I.bel.cell (p := ⟨bb, off + i * 2, none⟩) hbb).trans d0
        replace d1 := (I.bel.cell (p := ⟨bb, off + i * 2 + 1, none⟩) hbb).trans d1
        have HS := Lib.hid (bbTo_snoc x0 y0 ps i _ hxy)
        clear hxy
        generalize bbTo x0 y0 (ps.take i) = B at *
        obtain ⟨lx, ly, ux, uy⟩ := B
        have e1 := I.b0.cell 1
        have f0 := I.b1.cell 0
        have f1 := I.b1.cell 1
        have f2 := I.b2.cell 0
        have f3 := I.b2.cell 1
        have z0 := I.b1.frozen 0
        have z1 := I.b1.frozen 1
        have z2 := I.b2.frozen 0
        have z3 := I.b2.frozen 1
        simp at e1 f0 f1 f2 f3
        have l1 := I.b1.lt
        have l2 := I.b2.lt
        have l3 : bb < wr.heap.size := Nat.lt_of_lt_of_le hbb I.bel.size
        have hne := I.ne
        have J := Lib.hid I
        have i0 : (0 : Int) ≤ (i : Int) := by omega
        have i1 : (i : Int) < (n : Int) := by omega
        clear I
        go_wp2_with fail
        all_goals
          go_roundw
          case rel =>
            refine ⟨i + 1, by omega, by go_num, ?_⟩
            rw [HS.out]
            refine QuI.eq ?_ (((J.out.put1 _ _).put2 _ _).alloc _)
            simp only [bbStep, Prod.mk.injEq]
            omega
          case measure => simp [intOf]; omega
      · obtain rfl : i = n := by omega
        rw [List.take_of_length_le (by have := HL.out; omega)] at I
        have hin := bbTo_in x0 y0 ps (HP.out _ (List.mem_of_getElem? H0.out)) HP.out
        have hcc := HC.out
        generalize bbTo x0 y0 ps = B at *
        obtain ⟨lx, ly, ux, uy⟩ := B
        simp only [InBox] at hin
        obtain ⟨m1, m2, m3, m4, m5, m6, m7, m8⟩ := hin
        simp only [cornersOf, Prod.mk.injEq] at hcc
        obtain ⟨q1, q2, q3, q4⟩ := hcc
        have HQ := Lib.hid (And.intro q1 (And.intro q2 (And.intro q3 q4)))
        clear q1 q2 q3 q4 HC
        have e1 := I.b0.cell 1
        have e2 := I.b0.cell 2
        have f0 := I.b1.cell 0
        have f1 := I.b1.cell 1
        have f2 := I.b2.cell 0
        have f3 := I.b2.cell 1
        have z0 := I.b1.frozen 0
        have z1 := I.b1.frozen 1
        simp at e1 e2 f0 f1 f2 f3
        have l1 := I.b1.lt
        have l2 := I.b2.lt
        have hne := I.ne
        have J := Lib.hid I
        clear I
        go_upto_region 8 with fail
        clear e1
        go_cut [] (fun wx => QuI w #[.int .i64 k, .slice (some ⟨bb, off, none⟩) i cc, .int .i64 r] g1 g2 ((a : Int), (c : Int), ux, uy) wx)
        case first =>
          go_wp2_with fail
          all_goals go_meet
          all_goals
            refine QuI.eq ?_ (J.out.put1 _ _)
            have := HQ.out
            simp only [Prod.mk.injEq, and_true]
            omega
        case rest =>
          have J2 := Lib.hid hcut
          have e2' := hcut.b0.cell 2
          have f2' := hcut.b2.cell 0
          have f3' := hcut.b2.cell 1
          have z0' := hcut.b2.frozen 0
          have z1' := hcut.b2.frozen 1
          have l2' := hcut.b2.lt
          simp at e2' f2' f3'
          clear hcut e2 f0 f1 f2 f3 z0 z1 l1 l2 J
          go_upto_region 9 with fail
          go_cut [] (fun wx => QuI w #[.int .i64 k, .slice (some ⟨bb, off, none⟩) i cc, .int .i64 r] g1 g2 ((a : Int), (c : Int), (b : Int), (d : Int)) wx)
          case first =>
            go_wp2_with fail
            all_goals go_meet
            all_goals
              refine QuI.eq ?_ (J2.out.put2 _ _)
              have := HQ.out
              simp only [Prod.mk.injEq, true_and]
              omega
          case rest =>
            have J3 := Lib.hid hcut
            clear hcut e2' f2' f3' z0' z1' l2' J2 hne HQ m1 m2 m3 m4 m5 m6 m7 m8
            go_upto_region 12 with fail
            go_loopw [8, 9] (fun v8 v9 wr => ∃ kk : Nat, kk ≤ 16 ∧ kOf a b c d = lk a b c d (16 - kk) kk ∧ v9 = .int .i64 kk ∧ v8 = .int .i64 ((2 ^ kk : Nat) : Int) ∧ Below wc.heap.size wc wr) (fun _ v9 _ => 17 - (intOf v9).toNat)
            case atStart => exact ⟨0, by omega, rfl, rfl, rfl, Below.refl _ _⟩
            case round =>
              obtain ⟨kk, hkk, hlk, rfl, rfl, hb⟩ := hrel
              have M := Lib.hid (J3.out.step hb)
              have HLK := Lib.hid hlk
              have HB := Lib.hid hb
              clear hlk hb
              have p0 := M.out.b1.cell 0
              have p1 := M.out.b1.cell 1
              have u0 := M.out.b2.cell 0
              have u1 := M.out.b2.cell 1
              simp at p0 p1 u0 u1
              obtain ⟨P, hP⟩ : ∃ P, P = 2 ^ kk := ⟨_, rfl⟩
              have hpos : 0 < P := by rw [hP]; exact Nat.two_pow_pos kk
              have hP16 : P ≤ 65536 := by rw [hP, show (65536 : Nat) = 2 ^ 16 by decide]; exact Nat.pow_le_pow_right (by omega) hkk
              have HPK := Lib.hid hP
              have pp : (0 : Int) < (P : Int) := by omega
              have pz : (P : Int) ≤ 65536 := by omega
              have fa := tdiv_nat a P
              have fb := tdiv_nat b P
              have fc := tdiv_nat c P
              have fd := tdiv_nat d P
              have ga := wrap_nat (div_le' a P (by omega))
              have gb := wrap_nat (div_le' b P (by omega))
              have gc := wrap_nat (div_le' c P (by omega))
              have gd := wrap_nat (div_le' d P (by omega))
              have P0 : ∀ q : BW wr, q.val.cell? ⟨g1, 0, none⟩ = some (.int .i64 (a : Int)) := fun q => q.cell p0
              have P1 : ∀ q : BW wr, q.val.cell? ⟨g1, 1, none⟩ = some (.int .i64 (c : Int)) := fun q => q.cell p1
              have U0 : ∀ q : BW wr, q.val.cell? ⟨g2, 0, none⟩ = some (.int .i64 (b : Int)) := fun q => q.cell u0
              have U1 : ∀ q : BW wr, q.val.cell? ⟨g2, 1, none⟩ = some (.int .i64 (d : Int)) := fun q => q.cell u1
              have hag : agreeB a b c d kk = (a / P == b / P && c / P == d / P) := by unfold agreeB; rw [← hP]
              obtain ⟨va, hva⟩ : ∃ v, v = a / P := ⟨_, rfl⟩
              obtain ⟨vb, hvb⟩ : ∃ v, v = b / P := ⟨_, rfl⟩
              obtain ⟨vc, hvc⟩ : ∃ v, v = c / P := ⟨_, rfl⟩
              obtain ⟨vd, hvd⟩ : ∃ v, v = d / P := ⟨_, rfl⟩
              rw [← hva] at fa ga hag
              rw [← hvb] at fb gb hag
              rw [← hvc] at fc gc hag
              rw [← hvd] at fd gd hag
              have HVA := Lib.hid hva
              have HVC := Lib.hid hvc
              rw [← hP]
              clear hva hvb hvc hvd hP
              go_upto_region 12 with fail
              have kk0 : (0 : Int) ≤ (kk : Int) := by omega
              by_cases hk : kk = 16
              · have hk1 : ¬ ((kk : Int) < 16) := by omega
                have HK : Hid (kOf a b c d = kk) := by have h := HLK.out; rw [hk] at h; rw [Hid, hk]; exact h
                have HKV := Lib.hid hk
                clear hag hk
                refine wp_region_bw (by kernel_rfl) (by kernel_rfl) ?_
                repeat (go_big_quiet_step (fail))
                refine wpQuiet_nil ?_
                rintro _ ⟨kw, rfl⟩
                have HB2 := Lib.hid ((Below.refl wr.heap.size wr).step' kw.below)
                clear P0 P1 U0 U1
                generalize kw.val = w6 at *
                clear kw
                have N := Lib.hid (J3.out.step (HB.out.step' HB2.out))
                obtain ⟨X, Y, C, PP, mx, my, wx, wy, mp, hci, pt0, c0, ct, hCC, hend⟩ := quad_end_facts HPK.out HK.out HVA.out HVC.out (by omega) (by omega)
                have HEND := Lib.hid hend
                have HCC := Lib.hid hCC
                clear hend hCC
                have hcal : Hid (∀ q : BW w6, Calls Try.prog 18 #[pt (X : Int) (Y : Int)] q.val fun e w'' => e = .returned (.int .i64 (C : Int)) ∧ ∃ q : BW w6, w'' = q.val) := fun q => Calls.bw (by rw [← hci]; exact rcell_any (X : Int) (Y : Int) q.val)
                have p0' := N.out.b1.cell 0
                have p1' := N.out.b1.cell 1
                simp at p0' p1'
                have R0 : ∀ q : BW w6, q.val.cell? ⟨g1, 0, none⟩ = some (.int .i64 (a : Int)) := fun q => q.cell p0'
                have R1 : ∀ q : BW w6, q.val.cell? ⟨g1, 1, none⟩ = some (.int .i64 (c : Int)) := fun q => q.cell p1'
                clear hci p0' p1' p0 p1 u0 u1 fb fd gb gd
                go_upto_region 15 with fail
                refine wp_region_bw (by kernel_rfl) (by kernel_rfl) ?_
                repeat (go_big_quiet_step ((with_reducible exact hcal.out _)))
                refine wpQuiet_nil ?_
                rintro _ ⟨kw, rfl⟩
                have HB3 := Lib.hid (N.out.bel.step' kw.below)
                clear R0 R1 hcal
                generalize kw.val = w7 at *
                go_wp2_with fail
                go_ret2
                exact ⟨by rw [← HEND.out, ← HCC.out]; rfl, HB3.out⟩
              have hk1 : (kk : Int) < 16 := by omega
              by_cases e1 : va = vb
              rotate_left
              · have n1 : ((va : Int) != (vb : Int)) = true := by simp; omega
                have HAG : Hid (agreeB a b c d kk = false) := by rw [Hid, hag]; simp [e1]
                clear hag e1
                refine wp_region_bw (by kernel_rfl) (by kernel_rfl) ?_
                repeat (go_big_quiet_step (fail))
                refine wpQuiet_nil ?_
                rintro _ ⟨kw, rfl⟩
                have HB2 := Lib.hid ((Below.refl wr.heap.size wr).step' kw.below)
                clear P0 P1 U0 U1
                generalize kw.val = w6 at *
                clear kw
                go_wp2_with fail
                go_roundw
                case rel => exact ⟨kk + 1, by omega, by have h := HLK.out; rw [lk_go HAG.out (by omega)] at h; rw [show 16 - (kk + 1) = 16 - kk - 1 by omega]; exact h, by go_num, by rw [HPK.out, Nat.pow_succ]; push_cast; rfl, HB.out.step' HB2.out⟩
                case measure => simp [intOf]; omega
              have n1 : ((va : Int) != (vb : Int)) = false := by simp; omega
              by_cases e2 : vc = vd
              rotate_left
              · have n2 : ((vc : Int) != (vd : Int)) = true := by simp; omega
                have HAG : Hid (agreeB a b c d kk = false) := by rw [Hid, hag]; simp [e2]
                clear hag e1 e2
                refine wp_region_bw (by kernel_rfl) (by kernel_rfl) ?_
                repeat (go_big_quiet_step (fail))
                refine wpQuiet_nil ?_
                rintro _ ⟨kw, rfl⟩
                have HB2 := Lib.hid ((Below.refl wr.heap.size wr).step' kw.below)
                clear P0 P1 U0 U1
                generalize kw.val = w6 at *
                clear kw
                go_wp2_with fail
                go_roundw
                case rel => exact ⟨kk + 1, by omega, by have h := HLK.out; rw [lk_go HAG.out (by omega)] at h; rw [show 16 - (kk + 1) = 16 - kk - 1 by omega]; exact h, by go_num, by rw [HPK.out, Nat.pow_succ]; push_cast; rfl, HB.out.step' HB2.out⟩
                case measure => simp [intOf]; omega
              have n2 : ((vc : Int) != (vd : Int)) = false := by simp; omega
              have HAG : Hid (agreeB a b c d kk = true) := by rw [Hid, hag]; simp [e1, e2]
              have HK : Hid (kOf a b c d = kk) := by have h := HLK.out; rw [lk_stop HAG.out] at h; exact h
              clear hag e1 e2
              refine wp_region_bw (by kernel_rfl) (by kernel_rfl) ?_
              repeat (go_big_quiet_step (fail))
              refine wpQuiet_nil ?_
              rintro _ ⟨kw, rfl⟩
              have HB2 := Lib.hid ((Below.refl wr.heap.size wr).step' kw.below)
              clear P0 P1 U0 U1
              generalize kw.val = w6 at *
              clear kw
              have N := Lib.hid (J3.out.step (HB.out.step' HB2.out))
              obtain ⟨X, Y, C, PP, mx, my, wx, wy, mp, hci, pt0, c0, ct, hCC, hend⟩ := quad_end_facts HPK.out HK.out HVA.out HVC.out (by omega) (by omega)
              have HEND := Lib.hid hend
              have HCC := Lib.hid hCC
              clear hend hCC
              have hcal : Hid (∀ q : BW w6, Calls Try.prog 18 #[pt (X : Int) (Y : Int)] q.val fun e w'' => e = .returned (.int .i64 (C : Int)) ∧ ∃ q : BW w6, w'' = q.val) := fun q => Calls.bw (by rw [← hci]; exact rcell_any (X : Int) (Y : Int) q.val)
              have p0' := N.out.b1.cell 0
              have p1' := N.out.b1.cell 1
              simp at p0' p1'
              have R0 : ∀ q : BW w6, q.val.cell? ⟨g1, 0, none⟩ = some (.int .i64 (a : Int)) := fun q => q.cell p0'
              have R1 : ∀ q : BW w6, q.val.cell? ⟨g1, 1, none⟩ = some (.int .i64 (c : Int)) := fun q => q.cell p1'
              clear hci p0' p1' p0 p1 u0 u1 fb fd gb gd
              go_upto_region 15 with fail
              refine wp_region_bw (by kernel_rfl) (by kernel_rfl) ?_
              repeat (go_big_quiet_step ((with_reducible exact hcal.out _)))
              refine wpQuiet_nil ?_
              rintro _ ⟨kw, rfl⟩
              have HB3 := Lib.hid (N.out.bel.step' kw.below)
              clear R0 R1 hcal
              generalize kw.val = w7 at *
              go_wp2_with fail
              go_ret2
              exact ⟨by rw [← HEND.out, ← HCC.out]; rfl, HB3.out⟩

end Go.Proofs.Ytefolbfopjfbcaa
