/- The contract of geo.Cover. -/
import Derived.Test.YtefolbfopjfbcaaGeoReduce
import Derived.Test.YtefolbfopjfbcaaGeoQuad
import Derived.Test.YtefolbfopjfbcaaGeoInC
namespace Go.Proofs.Ytefolbfopjfbcaa
open Go.RowKit

/-- the corners of a valid shape -/
theorem corners_in {k : Int} {ps : List (Int × Int)} {r : Int} (h : validB k ps r = true) : ∃ (a b c d : Nat), cornersOf (bbTo (headP ps).1 (headP ps).2 ps) r = ((a : Int), (c : Int), (b : Int), (d : Int)) ∧ a ≤ b ∧ b < 65536 ∧ c ≤ d ∧ d < 65536 ∧ ps[0]? = some (headP ps) ∧ 0 ≤ r ∧ r < 65536 ∧ ∀ p ∈ ps, pointB p.1 p.2 = true := by
  obtain ⟨hf, hp⟩ := validB_form h
  have hn : ps ≠ [] := by
    intro e
    rw [e] at hf
    rcases formB_cases hf with h | h | h <;> simp at h
  obtain ⟨p, t, rfl⟩ : ∃ p t, ps = p :: t := by
    cases ps with
    | nil => exact absurd rfl hn
    | cons p t => exact ⟨p, t, rfl⟩
  have hr : 0 ≤ r ∧ r < 65536 := by rcases formB_cases hf with h | h | h <;> omega
  have hh : headP (p :: t) = p := rfl
  rw [hh]
  have h1 := bbTo_in p.1 p.2 (p :: t) (hp p (by simp)) hp
  have h2 := bbTo_bound (x0 := p.1) (y0 := p.2) (ps := p :: t) (p := p) (by simp)
  have h3 := pointB_true (hp p (by simp))
  generalize bbTo p.1 p.2 (p :: t) = B at *
  obtain ⟨b1, b2, b3, b4⟩ := B
  simp only [InBox] at h1
  simp only at h2
  refine ⟨(max 0 (b1 - r)).toNat, (min 65535 (b3 + r)).toNat, (max 0 (b2 - r)).toNat, (min 65535 (b4 + r)).toNat, ?_, by omega, by omega, by omega, by omega, rfl, hr.1, hr.2, hp⟩
  simp only [cornersOf]
  rw [Int.toNat_of_nonneg (by omega), Int.toNat_of_nonneg (by omega), Int.toNat_of_nonneg (by omega), Int.toNat_of_nonneg (by omega)]
/-- the ranges of the box -/
def boxR (a b c d : Nat) : List Rg := fillR (kOf a b c d) [] (2 ^ kOf a b c d * (a / 2 ^ kOf a b c d)) (2 ^ kOf a b c d * (c / 2 ^ kOf a b c d)) ((a : Int), (c : Int), (b : Int), (d : Int))
def cell0 (a b c d : Nat) : Nat := cellN 16 (2 ^ kOf a b c d * (a / 2 ^ kOf a b c d)) (2 ^ kOf a b c d * (c / 2 ^ kOf a b c d))
theorem rg_nil (A B : Int) : RgOk A B [] := ⟨by simp, by simp, by simp, by simp⟩
theorem boxR_ok (a b c d : Nat) : RgOk (cell0 a b c d) ((cell0 a b c d + 4 ^ kOf a b c d : Nat) : Int) (boxR a b c d) :=
  fillR_ok _ _ _ [] (kOf_le a b c d) (rg_nil _ _) (Int.le_refl _)
theorem boxR_in {a b c d x y : Nat} (hb : b < 65536) (hd : d < 65536) (h1 : a ≤ x) (h2 : x ≤ b) (h3 : c ≤ y) (h4 : y ≤ d) : inR (cellN 16 x y) (boxR a b c d) := by
  obtain ⟨g1, g2⟩ := kOf_agree (a := a) (b := b) (c := c) (d := d) (by omega) hb (by omega) hd
  obtain ⟨dx, hx, ex⟩ := between_agree g1 h1 h2
  obtain ⟨dy, hy, ey⟩ := between_agree g2 h3 h4
  have := (fillR_in (A := cell0 a b c d) (z := (cellN 16 x y : Nat)) (bx := ((a : Int), (c : Int), (b : Int), (d : Int))) (kOf a b c d) (a / 2 ^ kOf a b c d) (c / 2 ^ kOf a b c d) [] (kOf_le a b c d) (rg_nil _ _) (Int.le_refl _)).2 dx dy hx hy
  rw [← ex, ← ey] at this
  exact this ⟨by simp only; omega, by simp only; omega, by simp only; omega, by simp only; omega⟩ rfl
theorem boxR_ne {a b c d : Nat} (hb : b < 65536) (hd : d < 65536) (h1 : a ≤ b) (h3 : c ≤ d) : 1 ≤ (boxR a b c d).length := by
  obtain ⟨r, hr, _⟩ := boxR_in hb hd (Nat.le_refl a) h1 (Nat.le_refl c) h3
  exact List.length_pos_of_mem hr

theorem shr_nat (a k : Nat) : (a : Int) / 2 ^ k = ((a / 2 ^ k : Nat) : Int) := by push_cast; rfl
theorem shl_nat {a k : Nat} (ha : a < 65536) : wrap64 (((a / 2 ^ k : Nat) : Int) * 2 ^ k) = ((2 ^ k * (a / 2 ^ k) : Nat) : Int) := by
  have h := Nat.mul_div_le a (2 ^ k)
  have e : ((a / 2 ^ k : Nat) : Int) * 2 ^ k = ((2 ^ k * (a / 2 ^ k) : Nat) : Int) := by rw [Nat.mul_comm]; push_cast; rfl
  rw [e]
  unfold wrap64
  omega

set_option maxRecDepth 100000 in
set_option maxHeartbeats 1000000 in
theorem cover_any (k : Int) (A : Option Addr) (n cc : Nat) (r : Int) (ps : List (Int × Int)) (most : Nat) (a b c d : Nat) (w : World) (h : RdPts w A n ps) (hv : validB k ps r = true) (hc : cornersOf (bbTo (headP ps).1 (headP ps).2 ps) r = ((a : Int), (c : Int), (b : Int), (d : Int))) (h1 : a ≤ b) (h2 : b < 65536) (h3 : c ≤ d) (h4 : d < 65536)
    (h0 : ps[0]? = some (headP ps)) (hr0 : 0 ≤ r) (hr1 : r < 65536) (hps : ∀ p ∈ ps, pointB p.1 p.2 = true) (mo : Int) (hmo : max mo 1 = (most : Int)) :
    Calls Try.prog 21 #[shp k A n cc r, .int .i64 mo] w (RedOk (cell0 a b c d) ((cell0 a b c d + 4 ^ kOf a b c d : Nat) : Int) (boxR a b c d) most w) := by
  have H := Lib.hid h
  have B0 : Hid (Blk (w.alloc (Obj.cells #[.int .i64 k, .slice A n cc, .int .i64 r] 35)) w.heap.size 35 #[.int .i64 k, .slice A n cc, .int .i64 r]) := Blk.new_at rfl
  have BE : Hid (Below w.heap.size w (w.alloc (Obj.cells #[.int .i64 k, .slice A n cc, .int .i64 r] 35))) := (Below.refl _ _).alloc (Nat.le_refl _) _
  go_enter Try.func21, Try.ntmps21
  go_upto_region 1 with fail
  change (Code.region 1 _ _).wp _ _ _ (w.alloc (Obj.cells #[.int .i64 k, .slice A n cc, .int .i64 r] 35))
  generalize w.alloc (Obj.cells #[.int .i64 k, .slice A n cc, .int .i64 r] 35) = wa at *
  have k0 := B0.out.cell 0
  have k1 := B0.out.cell 1
  have k2 := B0.out.cell 2
  simp at k0 k1 k2
  have hva := valid_any k A n cc r ps wa (H.out.below BE.out)
  rw [hv] at hva
  have HVA := Lib.hid hva
  have HBO := Lib.hid fun (w1 : World) (hb : Below w.heap.size w w1) => bounds_any k A n cc r (headP ps).1 (headP ps).2 ps w1 (H.out.below hb) hr0 hr1 h0 hps
  rw [hc] at HBO
  simp only at HBO
  have HMO := Lib.hid hmo
  clear hva h hv hc h0 hr0 hr1 hps hmo
  go_wp2_with fail
  refine HVA.out.mono ?_
  rintro e w1 ⟨rfl, hb⟩
  have C0 := Lib.hid (B0.out.step hb)
  have CE := Lib.hid (BE.out.step' hb)
  clear k0 k1 k2 hb HVA B0 BE
  have k0 := C0.out.cell 0
  have k1 := C0.out.cell 1
  have k2 := C0.out.cell 2
  simp at k0 k1 k2
  go_upto_region 3 with fail
  go_wp2_with fail
  refine (HBO.out w1 CE.out).mono ?_
  rintro e w2 ⟨rfl, hb⟩
  have DE := Lib.hid (CE.out.step' hb)
  clear k0 k1 k2 hb HBO C0 CE
  have L0 : Hid (Blk ((w2.alloc (Obj.cells #[.int .i64 (a : Int), .int .i64 (c : Int)] 27)).alloc (Obj.cells #[.int .i64 (b : Int), .int .i64 (d : Int)] 27)) w2.heap.size 27 #[.int .i64 (a : Int), .int .i64 (c : Int)]) := (Blk.new_at rfl).alloc _
  have L1 : Hid (Blk ((w2.alloc (Obj.cells #[.int .i64 (a : Int), .int .i64 (c : Int)] 27)).alloc (Obj.cells #[.int .i64 (b : Int), .int .i64 (d : Int)] 27)) (w2.heap.size + 1) 27 #[.int .i64 (b : Int), .int .i64 (d : Int)]) := Blk.new_at (by simp)
  have LE : Hid (Below w.heap.size w ((w2.alloc (Obj.cells #[.int .i64 (a : Int), .int .i64 (c : Int)] 27)).alloc (Obj.cells #[.int .i64 (b : Int), .int .i64 (d : Int)] 27))) := (DE.out.alloc DE.out.size _).alloc (by have := DE.out.size; simp; omega) _
  go_upto_region 5 with fail
  generalize (w2.alloc (Obj.cells #[.int .i64 (a : Int), .int .i64 (c : Int)] 27)).alloc (Obj.cells #[.int .i64 (b : Int), .int .i64 (d : Int)] 27) = wb at *
  clear DE
  generalize w2.heap.size = g5 at *
  go_loopw [7] (fun v7 wr => ∃ kk : Nat, kk ≤ 16 ∧ kOf a b c d = lk a b c d (16 - kk) kk ∧ v7 = .int .i64 kk ∧ Below wb.heap.size wb wr) (fun v7 _ => 17 - (intOf v7).toNat)
  case atStart => exact ⟨0, by omega, rfl, rfl, Below.refl _ _⟩
  case round =>
    obtain ⟨kk, hkk, hlk, rfl, hb⟩ := hrel
    have M0 := Lib.hid (L0.out.step hb)
    have M1 := Lib.hid (L1.out.step hb)
    have ME := Lib.hid (LE.out.step' hb)
    have HLK := Lib.hid hlk
    clear L0 L1 LE hlk
    have p0 := M0.out.cell 0
    have p1 := M0.out.cell 1
    have u0 := M1.out.cell 0
    have u1 := M1.out.cell 1
    simp at p0 p1 u0 u1
    have kk0 : (0 : Int) ≤ (kk : Int) := by omega
    have kk1 : (kk : Int) ≤ 16 := by omega
    have fa := shr_nat a kk
    have fb := shr_nat b kk
    have fc := shr_nat c kk
    have fd := shr_nat d kk
    have HB := Lib.hid hb
    clear hb
    have P0 : ∀ q : BW wr, q.val.cell? ⟨g5, 0, none⟩ = some (.int .i64 (a : Int)) := fun q => q.cell p0
    have P1 : ∀ q : BW wr, q.val.cell? ⟨g5, 1, none⟩ = some (.int .i64 (c : Int)) := fun q => q.cell p1
    have U0 : ∀ q : BW wr, q.val.cell? ⟨g5 + 1, 0, none⟩ = some (.int .i64 (b : Int)) := fun q => q.cell u0
    have U1 : ∀ q : BW wr, q.val.cell? ⟨g5 + 1, 1, none⟩ = some (.int .i64 (d : Int)) := fun q => q.cell u1
    obtain ⟨va, hva⟩ : ∃ v, v = a / 2 ^ kk := ⟨_, rfl⟩
    obtain ⟨vb, hvb⟩ : ∃ v, v = b / 2 ^ kk := ⟨_, rfl⟩
    obtain ⟨vc, hvc⟩ : ∃ v, v = c / 2 ^ kk := ⟨_, rfl⟩
    obtain ⟨vd, hvd⟩ : ∃ v, v = d / 2 ^ kk := ⟨_, rfl⟩
    have hag : agreeB a b c d kk = (va == vb && vc == vd) := by unfold agreeB; rw [← hva, ← hvb, ← hvc, ← hvd]
    rw [← hva] at fa
    rw [← hvb] at fb
    rw [← hvc] at fc
    rw [← hvd] at fd
    have h16 : kk = 16 → agreeB a b c d kk = true := fun e => by rw [e]; exact agree_16 (by omega) h2 (by omega) h4
    have HVA := Lib.hid hva
    have HVC := Lib.hid hvc
    clear hva hvb hvc hvd
    go_upto_region 5 with fail
    by_cases e1 : va = vb
    rotate_left
    · have n1 : ((va : Int) != (vb : Int)) = true := by simp; omega
      have HAG : Hid (agreeB a b c d kk = false) := by rw [Hid, hag]; simp [e1]
      have hk16 : kk ≠ 16 := fun e => by have := h16 e; rw [HAG.out] at this; cases this
      clear hag h16 e1
      refine wp_region_bw (by kernel_rfl) (by kernel_rfl) ?_
      repeat (go_big_quiet_step (fail))
      refine wpQuiet_nil ?_
      rintro _ ⟨kw, rfl⟩
      have HB2 := Lib.hid ((Below.refl wr.heap.size wr).step' kw.below)
      clear P0 P1 U0 U1
      generalize kw.val = w6 at *
      clear kw
      go_wp2_with fail
      go_roundw
      case rel => exact ⟨kk + 1, by omega, by have h := HLK.out; rw [lk_go HAG.out (by omega)] at h; rw [show 16 - (kk + 1) = 16 - kk - 1 by omega]; exact h, by go_num, HB.out.step' HB2.out⟩
      case measure => simp [intOf]; omega
    have n1 : ((va : Int) != (vb : Int)) = false := by simp; omega
    by_cases e2 : vc = vd
    rotate_left
    · have n2 : ((vc : Int) != (vd : Int)) = true := by simp; omega
      have HAG : Hid (agreeB a b c d kk = false) := by rw [Hid, hag]; simp [e2]
      have hk16 : kk ≠ 16 := fun e => by have := h16 e; rw [HAG.out] at this; cases this
      clear hag h16 e1 e2
      refine wp_region_bw (by kernel_rfl) (by kernel_rfl) ?_
      repeat (go_big_quiet_step (fail))
      refine wpQuiet_nil ?_
      rintro _ ⟨kw, rfl⟩
      have HB2 := Lib.hid ((Below.refl wr.heap.size wr).step' kw.below)
      clear P0 P1 U0 U1
      generalize kw.val = w6 at *
      clear kw
      go_wp2_with fail
      go_roundw
      case rel => exact ⟨kk + 1, by omega, by have h := HLK.out; rw [lk_go HAG.out (by omega)] at h; rw [show 16 - (kk + 1) = 16 - kk - 1 by omega]; exact h, by go_num, HB.out.step' HB2.out⟩
      case measure => simp [intOf]; omega
    have n2 : ((vc : Int) != (vd : Int)) = false := by simp; omega
    have HAG : Hid (agreeB a b c d kk = true) := by rw [Hid, hag]; simp [e1, e2]
    have HK : Hid (kOf a b c d = kk) := by have h := HLK.out; rw [lk_stop HAG.out] at h; exact h
    clear hag h16 e1 e2
    refine wp_region_bw (by kernel_rfl) (by kernel_rfl) ?_
    repeat (go_big_quiet_step (fail))
    refine wpQuiet_nil ?_
    rintro _ ⟨kw, rfl⟩
    have HB2 := Lib.hid ((Below.refl wr.heap.size wr).step' kw.below)
    clear P0 P1 U0 U1
    generalize kw.val = w6 at *
    clear kw
    have N0 := Lib.hid (M0.out.step HB2.out)
    have N1 := Lib.hid (M1.out.step HB2.out)
    have NE := Lib.hid (ME.out.step' HB2.out)
    obtain ⟨X, hX⟩ : ∃ X, X = 2 ^ kk * va := ⟨_, rfl⟩
    obtain ⟨Y, hY⟩ : ∃ Y, Y = 2 ^ kk * vc := ⟨_, rfl⟩
    have gx : wrap64 ((va : Int) * 2 ^ kk) = (X : Int) := by rw [hX, HVA.out]; exact shl_nat (by omega)
    have gy : wrap64 ((vc : Int) * 2 ^ kk) = (Y : Int) := by rw [hY, HVC.out]; exact shl_nat (by omega)
    have HX := Lib.hid hX
    have HY := Lib.hid hY
    clear hX hY M0 M1 ME HB HB2 p0 p1 u0 u1 n1 n2 fb fd
    have p0 := N0.out.cell 0
    have p1 := N0.out.cell 1
    simp at p0 p1
    have gl0 := N0.out.lt
    have gl1 : g5 < w6.heap.size + 1 := by omega
    go_upto_region 7 with fail
    go_cut [8] (fun v8 wx => ∃ g8 : Nat, v8 = .pointer (some ⟨g8, 0, none⟩) ∧ Blk wx g8 27 #[.int .i64 (X : Int), .int .i64 (Y : Int)] ∧ Below w6.heap.size w6 wx)
    case first =>
      go_region
      all_goals (go_wp2_with fail; go_meet)
      all_goals exact ⟨w6.heap.size, rfl, Blk.new_at rfl, ((Below.refl _ _).alloc (Nat.le_refl _) _).drew⟩
    case rest =>
      obtain ⟨g8, rfl, hg8, hb8⟩ := hcut
      have O0 := Lib.hid (N0.out.step hb8)
      have O1 := Lib.hid (N1.out.step hb8)
      have O8 := Lib.hid hg8
      have OE := Lib.hid (NE.out.step' hb8)
      clear N0 N1 NE hg8 hb8 p0 p1 gl0 gl1 gx gy fa fc
      have p0 := O0.out.cell 0
      have p1 := O0.out.cell 1
      have u0 := O1.out.cell 0
      have u1 := O1.out.cell 1
      have v0 := O8.out.cell 0
      have v1 := O8.out.cell 1
      simp at p0 p1 u0 u1 v0 v1
      have hXb : X + 2 ^ kk ≤ 65536 := by
        rw [HX.out, HVA.out, ← Nat.mul_succ]
        have h65 : (65536 : Nat) = 2 ^ kk * 2 ^ (16 - kk) := by rw [← Nat.pow_add, show kk + (16 - kk) = 16 by omega]
        rw [h65]
        refine Nat.mul_le_mul_left _ (Nat.succ_le_of_lt ?_)
        rw [Nat.div_lt_iff_lt_mul (Nat.two_pow_pos kk), Nat.mul_comm, ← h65]
        omega
      have hYb : Y + 2 ^ kk ≤ 65536 := by
        rw [HY.out, HVC.out, ← Nat.mul_succ]
        have h65 : (65536 : Nat) = 2 ^ kk * 2 ^ (16 - kk) := by rw [← Nat.pow_add, show kk + (16 - kk) = 16 by omega]
        rw [h65]
        refine Nat.mul_le_mul_left _ (Nat.succ_le_of_lt ?_)
        rw [Nat.div_lt_iff_lt_mul (Nat.two_pow_pos kk), Nat.mul_comm, ← h65]
        omega
      have hfill := fill_any kk hkk X Y va vc [] (.slice none 0 0) (cellN 16 X Y) ((a : Int), (c : Int), (b : Int), (d : Int)) wc.heap.size wc HX.out HY.out hXb hYb (Int.natCast_nonneg _) (rg_nil _ _) (Int.le_refl _) ⟨by simp only; omega, by simp only; omega, by simp only; omega, by simp only; omega, by simp only; omega, by simp only; omega, by simp only; omega, by simp only; omega⟩ (own_nil _ _ _ _) (Nat.le_refl _)
      have hbx : fillR kk [] X Y ((a : Int), (c : Int), (b : Int), (d : Int)) = boxR a b c d := by rw [boxR, HK.out, HX.out, HY.out, HVA.out, HVC.out]
      rw [hbx] at hfill
      simp only at hfill
      have HFI := Lib.hid hfill
      have hmx := HMO.out
      clear hfill hbx hXb hYb
      go_wp2_with fail
      refine HFI.out.mono ?_
      rintro e w9 ⟨v', rfl, hown, hgr, _⟩
      obtain ⟨A', c', hv', hsr⟩ := SR.of_own recR_length hown rfl
      subst hv'
      have hb9 : Below wc.heap.size wc w9 := (Below.refl _ _).grown hgr (Nat.le_refl _) (fun k hk => by simp [Value.ownBlock] at hk)
      have hq : cell0 a b c d + 4 ^ kOf a b c d ≤ 4294967296 := quad_top (kOf_le a b c d)
      have hm1 : 1 ≤ most := by have := HMO.out; omega
      have HRE := Lib.hid (reduce_any (boxR a b c d) A' (boxR a b c d).length c' most (cell0 a b c d) ((cell0 a b c d + 4 ^ kOf a b c d : Nat) : Int) w9 hsr (boxR_ok a b c d) (Int.natCast_nonneg _) (by omega) hm1 (boxR_ne h2 h4 h1 h3))
      have PE := Lib.hid (OE.out.step' hb9)
      have hcase : (mo < 1 ∧ most = 1) ∨ (1 ≤ mo ∧ mo = (most : Int)) := by have := HMO.out; omega
      clear hown hgr hsr hb9 hq hm1 p0 p1 u0 u1 v0 v1 hmx
      rcases hcase with ⟨c1, rfl⟩ | ⟨c1, rfl⟩
      · have HRE2 : Hid (Calls Try.prog 39 #[.slice A' (boxR a b c d).length c', .int .i64 1] w9 (RedOk (cell0 a b c d) ((cell0 a b c d + 4 ^ kOf a b c d : Nat) : Int) (boxR a b c d) 1 w9)) := HRE
        clear HRE HMO
        go_wp2_with fail
        refine HRE2.out.mono ?_
        rintro e w10 ⟨A1, m1, c1, C, rfl, r1, r2, r3, r4, r5, r6⟩
        have HR := Lib.hid (And.intro r1 (And.intro r2 (And.intro r3 (And.intro r4 (And.intro r5 r6)))))
        clear r1 r2 r3 r4 r5 r6
        go_wp2_with fail
        go_ret
        exact ⟨A1, m1, c1, C, rfl, HR.out.1, HR.out.2.1, HR.out.2.2.1, HR.out.2.2.2.1, HR.out.2.2.2.2.1, PE.out.step' HR.out.2.2.2.2.2⟩
      · clear HMO
        go_wp2_with fail
        refine HRE.out.mono ?_
        rintro e w10 ⟨A1, m1, c1, C, rfl, r1, r2, r3, r4, r5, r6⟩
        have HR := Lib.hid (And.intro r1 (And.intro r2 (And.intro r3 (And.intro r4 (And.intro r5 r6)))))
        clear r1 r2 r3 r4 r5 r6
        go_wp2_with fail
        go_ret
        exact ⟨A1, m1, c1, C, rfl, HR.out.1, HR.out.2.1, HR.out.2.2.1, HR.out.2.2.2.1, HR.out.2.2.2.2.1, PE.out.step' HR.out.2.2.2.2.2⟩

end Go.Proofs.Ytefolbfopjfbcaa
