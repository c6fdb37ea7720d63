/- The walk of the law ValueSorts. -/
import Derived.Test.YtckeccfbadlhhaaDoorValAwake
import Derived.Test.YtckeccfbadlhhaaDoorValSame
import Derived.Test.YtckeccfbadlhhaaDoorRefSort
import Derived.Test.YtckeccfbadlhhaaDoorValOpenL
namespace Go.Proofs.YtckeccfbadlhhaaDoor
open Go.RowKit

theorem list_val {F : Nat → Prop} {w : World} {A : Option Addr} {n c : Nat} {ps : List PV} (h : SL F w A n c ps) : RV F w ⟨6, 0, ByteArray.empty, A, n, c, none, 0, 0⟩ (.mk 6 0 ByteArray.empty (ps.map Prod.snd) []) := by
  have := RV.of_slices (k := 6) (m := 0) (t := ByteArray.empty) (by show (0 : Nat) ≤ reach; decide) h (SD.nil (F := F) (w := w))
  simpa using this
set_option maxRecDepth 100000 in
theorem samelist_eq (ps qs : List PV) (A B : Option Addr) (n c m d : Nat) (w : World) (h : SL (fun _ => True) w A n c ps) (h' : SL (fun _ => True) w B m d qs) (he : ps.map Prod.snd = qs.map Prod.snd) :
    Calls Tryd.prog 23 #[.slice A n c, .slice B m d] w fun e w' => e = .returned (.bool true) ∧ Below w.heap.size w w' := by
  have H := Lib.hid (list_val h)
  have H' := Lib.hid (list_val h')
  have HE := Lib.hid he
  clear h h' he
  go_enter Tryd.func23, Tryd.ntmps23
  go_wp2_with fail
  refine (rsame_any _ _ ⟨6, 0, ByteArray.empty, A, n, c, none, 0, 0⟩ ⟨6, 0, ByteArray.empty, B, m, d, none, 0, 0⟩ _ H.out H'.out).mono ?_
  rintro e w1 ⟨rfl, hb⟩
  rw [HE.out, sameV_true rfl]
  go_wp2_with fail
  go_ret
  exact ⟨rfl, hb⟩
theorem sorted_pair {l m : List Val} (h : StV l m) {i : Nat} {x y : Val} (hx : m[i]? = some x) (hy : m[i + 1]? = some y) : ¬ 0 < cmpV x y := by
  obtain ⟨S, h1, rfl⟩ := h
  rw [List.getElem?_map] at hx hy
  obtain ⟨p, hp, rfl⟩ := Option.map_eq_some_iff.1 hx
  obtain ⟨q, hq, rfl⟩ := Option.map_eq_some_iff.1 hy
  have := RT.le (pw_at h1.ord (Nat.lt_succ_self i) hp hq)
  omega

set_option maxRecDepth 100000 in
set_option maxHeartbeats 2000000 in
theorem valueSorts_walk (A : Option Addr) (n c : Nat) (ps : List PV) (w : World) (hT : Tabs w) (h : SL (fun _ => True) w A n c ps) : Calls Tryd.prog 6 #[.slice A n c] w fun e w' => e = .returned (.bool true) ∧ Below w.heap.size w w' := by
  have HT := Lib.hid hT
  have HP := Lib.hid h
  have hz := h.sz
  unfold reach at hz
  clear h hT
  by_cases h1 : 200 < n
  · go_enter Tryd.func6, Tryd.ntmps6
    go_wp2_with fail
    refine (awake_any _ HT.out).mono ?_
    rintro e w9 ⟨rfl, hb9⟩
    go_wp2_with fail
    go_ret
    exact ⟨rfl, hb9⟩
  go_enter Tryd.func6, Tryd.ntmps6
  go_wp2_with fail
  refine (sortV_any ps A n c _ HP.out (by omega)).mono ?_
  rintro e w1 ⟨B, m, d, qs, rfl, hst, hsl, hb1⟩
  have Z1 := Lib.hid hb1
  have HSt := Lib.hid hst
  have HL : Hid (SL (fun _ => True) w1 B m d qs) := hsl.mono fun _ _ => trivial
  have HM := Lib.hid hsl.sr.ln
  have hzm := hsl.sz
  unfold reach at hzm
  have hmd := hsl.sr.lc
  clear hb1 hst hsl
  go_wp2_with fail
  go_loopw [4] (fun v4 wr => ∃ i : Nat, i ≤ m ∧ v4 = .int .i64 i ∧ Below w1.heap.size w1 wr) (fun v4 _ => m - (intOf v4).toNat)
  case atStart => exact ⟨0, Nat.zero_le _, rfl, Below.refl _ _⟩
  case round =>
    obtain ⟨i, hi, rfl, I⟩ := hrel
    have J := Lib.hid I
    by_cases hlt : i + 1 < m
    · obtain ⟨p, hp⟩ : ∃ p, qs[i]? = some p := ⟨_, List.getElem?_eq_getElem (by have := HM.out; omega)⟩
      obtain ⟨q, hq⟩ : ∃ q, qs[i + 1]? = some q := ⟨_, List.getElem?_eq_getElem (by have := HM.out; omega)⟩
      have hc := sorted_pair HSt.out (i := i) (x := p.2) (y := q.2) (by rw [List.getElem?_map, hp]; rfl) (by rw [List.getElem?_map, hq]; rfl)
      obtain ⟨b, off, rfl, _, hu, hr⟩ := HL.out.vat hp
      obtain ⟨b', off', e', _, hu', hr'⟩ := HL.out.vat hq
      cases e'
      obtain ⟨p0, p1, p2, p3, p4⟩ := hu.step I
      obtain ⟨r0, r1, r2, r3, r4⟩ := hu'.step I
      have P0 : ∀ k : BW wr, k.val.cell? ⟨b, off + i * 5, none⟩ = some (.int .i64 p.1.k) := fun k => k.cell p0
      have P1 : ∀ k : BW wr, k.val.cell? ⟨b, off + i * 5 + 1, none⟩ = some (.int .i64 p.1.n) := fun k => k.cell p1
      have P2 : ∀ k : BW wr, k.val.cell? ⟨b, off + i * 5 + 2, none⟩ = some (.string p.1.t) := fun k => k.cell p2
      have P3 : ∀ k : BW wr, k.val.cell? ⟨b, off + i * 5 + 3, none⟩ = some (.slice p.1.LA p.1.ln p.1.lc) := fun k => k.cell p3
      have P4 : ∀ k : BW wr, k.val.cell? ⟨b, off + i * 5 + 4, none⟩ = some (.slice p.1.DA p.1.dn p.1.dc) := fun k => k.cell p4
      have R0 : ∀ k : BW wr, k.val.cell? ⟨b, off + (i + 1) * 5, none⟩ = some (.int .i64 q.1.k) := fun k => k.cell r0
      have R1 : ∀ k : BW wr, k.val.cell? ⟨b, off + (i + 1) * 5 + 1, none⟩ = some (.int .i64 q.1.n) := fun k => k.cell r1
      have R2 : ∀ k : BW wr, k.val.cell? ⟨b, off + (i + 1) * 5 + 2, none⟩ = some (.string q.1.t) := fun k => k.cell r2
      have R3 : ∀ k : BW wr, k.val.cell? ⟨b, off + (i + 1) * 5 + 3, none⟩ = some (.slice q.1.LA q.1.ln q.1.lc) := fun k => k.cell r3
      have R4 : ∀ k : BW wr, k.val.cell? ⟨b, off + (i + 1) * 5 + 4, none⟩ = some (.slice q.1.DA q.1.dn q.1.dc) := fun k => k.cell r4
      have i0 : (0 : Int) ≤ (i : Int) := by omega
      have i1 : (i : Int) < (m : Int) := by omega
      have i2 : (0 : Int) ≤ (i : Int) + 1 := by omega
      have i3 : (i : Int) + 1 < (m : Int) := by omega
      have W1 : IntKind.i64.wrap ((i : Int) + 1) = (i : Int) + 1 := wrap_i64' (by omega) (by omega)
      have W2 : ((i : Int) + 1).toNat = i + 1 := by omega
      have K1 : Hid (∀ k : BW wr, Calls Tryd.prog 19 #[p.1.val, q.1.val] k.val fun e w'' => e = .returned (.int .i64 (cmpV p.2 q.2)) ∧ ∃ k : BW wr, w'' = k.val) := fun k =>
        Calls.bw (cmp_any p.2 q.2 p.1 q.1 k.val ((hr.step I).step k.below) ((hr'.step I).step k.below))
      clear p0 p1 p2 p3 p4 r0 r1 r2 r3 r4 hp hq hu hu' hr hr' I
      go_upto_region 7 with fail
      refine wp_region_bw (by kernel_rfl) (by kernel_rfl) ?_
      repeat (go_big_quiet_step (with_reducible exact K1.out _))
      refine wpQuiet_nil ?_
      rintro _ ⟨kw, rfl⟩
      have J2 := Lib.hid (J.out.step' kw.below)
      clear P0 P1 P2 P3 P4 R0 R1 R2 R3 R4 K1 i0 i1 i2 i3 W1 W2
      generalize kw.val = w2 at *
      go_wp2_with fail
      go_roundw
      case rel => exact ⟨i + 1, by omega, by go_num, J2.out⟩
      case measure => simp [intOf]; omega
    · clear I
      go_wp2_with fail
      refine (refSort_any ps A n c _ ((HP.out.step Z1.out).step J.out)).mono ?_
      rintro e w2 ⟨B', m', d', rs, rfl, hst2, hsl2, hb2⟩
      have HE := Lib.hid (HSt.out.unique hst2)
      have HL2 := Lib.hid hsl2
      have J2 := Lib.hid (J.out.step' hb2)
      clear hst2 hsl2 hb2
      go_wp2_with fail
      refine (samelist_eq qs rs B B' m d m' d' _ (HL.out.step J2.out) HL2.out HE.out).mono ?_
      rintro e w3 ⟨rfl, hb3⟩
      have J3 := Lib.hid (J2.out.step' hb3)
      clear hb3
      go_wp2_with fail
      refine (awake_any _ (HT.out.step (Z1.out.step' J3.out))).mono ?_
      rintro e w9 ⟨rfl, hb9⟩
      go_wp2_with fail
      go_ret
      exact ⟨rfl, (Z1.out.step' J3.out).step' hb9⟩

end Go.Proofs.YtckeccfbadlhhaaDoor
