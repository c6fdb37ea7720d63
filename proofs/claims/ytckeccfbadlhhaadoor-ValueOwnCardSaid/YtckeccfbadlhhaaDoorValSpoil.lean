/- The contract of the law's spoil. -/
import Derived.Test.YtckeccfbadlhhaaDoorValSpoilPure
import Derived.Test.YtckeccfbadlhhaaDoorValList
namespace Go.Proofs.YtckeccfbadlhhaaDoor
open Go.RowKit

/-- from w to w' only blocks of F have changed -/
structure Chg (F : Nat → Prop) (w w' : World) : Prop where
  size : w.heap.size ≤ w'.heap.size
  block : ∀ b, b < w.heap.size → ¬ F b → w'.heap[b]? = w.heap[b]?
section
variable {F : Nat → Prop} {w w1 w2 : World}
theorem Chg.refl : Chg F w w := ⟨Nat.le_refl _, fun _ _ _ => rfl⟩
theorem Chg.trans (h : Chg F w w1) (k : Chg F w1 w2) : Chg F w w2 := ⟨Nat.le_trans h.size k.size, fun b hb hn => (k.block b (Nat.lt_of_lt_of_le hb h.size) hn).trans (h.block b hb hn)⟩
theorem Chg.of_below (h : Below w.heap.size w w1) : Chg F w w1 := ⟨h.size, fun b hb _ => h.block b hb⟩
theorem Chg.setV {b off : Nat} {v : VC} (h : Chg F w w1) (hF : F b) : Chg F w (Go.Proofs.YtckeccfbadlhhaaDoor.setV w1 b off v) :=
  ⟨by rw [size_setV]; exact h.size, fun q hq hn => by rw [heap_setV (fun e => hn (by rw [e]; exact hF))]; exact h.block q hq hn⟩
theorem Chg.set {b off : Nat} {v : Value} (h : Chg F w w1) (hF : F b) : Chg F w (w1.setCell ⟨b, off, none⟩ v) :=
  ⟨by simpa [World.setCell] using h.size, fun q hq hn => by rw [Below.heap_setCell _ _ _ _ (fun e => hn (by rw [e]; exact hF))]; exact h.block q hq hn⟩
theorem Chg.blk {b : Nat} {t : TypeId} {cs : Array Value} (h : Chg F w w1) (hb : Blk w b t cs) (hn : ¬ F b) : Blk w1 b t cs := (h.block b hb.lt hn).trans hb
end
/-- the state of spoil -/
structure SpI (F : Nat → Prop) (w w0 : World) (c : VC) (wr : World) : Prop where
  b : Blk wr w0.heap.size 25 c.arr
  s : Spo F w wr
  ch : Chg F w0 wr
def spoilt : ByteArray := ⟨#[115, 112, 111, 105, 108, 116]⟩

set_option maxRecDepth 100000 in
set_option maxHeartbeats 2000000 in
theorem spoil_any {F : Nat → Prop} (x : Val) : ∀ (c c' : VC) (lf : Int) (w w0 : World), RV F w c x → (∀ b, F b → b < w.heap.size ∧ Unf w b) → Spo F w w0 → SimC c c' → 0 ≤ lf → lf ≤ 1000 →
    Calls Tryd.prog 33 #[c'.val, .int .i64 lf] w0 fun e w' => e = .returned (.tuple #[]) ∧ Spo F w w' ∧ Chg F w0 w' := by
  induction x using Val.ind with
  | h k n t l d ihl ihd =>
  intro c c' lf w w0 h hF hS hC h0 h1
  have ho := h.open
  have hsz := hS.size
  have hnF : ¬ F w0.heap.size := fun hf => by have := (hF _ hf).1; omega
  have hall : Below w0.heap.size w0 (w0.alloc (Obj.cells c'.arr 25)) := (Below.refl _ _).alloc (Nat.le_refl _) _
  have I0 : Hid (SpI F w w0 c' (w0.alloc (Obj.cells c'.arr 25))) := Lib.hid ⟨Blk.new_at rfl, hS.step (fun b hb => (hF b hb).1) hall, Chg.of_below hall⟩
  have HO := Lib.hid ho
  have HF := Lib.hid hF
  have HC := Lib.hid hC
  have IHL := Lib.hid ihl
  have IHD := Lib.hid ihd
  have HnF := Lib.hid hnF
  obtain ⟨ck, cn, ct, cLA, cln, clc, cDA, cdn, cdc⟩ := c'
  have hlz : (cln : Int) ≤ 9223372036854775807 := by
    rcases hC.l with ⟨_, e, _⟩ | ⟨_, e, _⟩
    · have h2 := ho.lsz; simp only at e; unfold reach at h2; omega
    · simp only at e; omega
  have hdz : (cdn : Int) ≤ 9223372036854775807 := by
    rcases hC.d with ⟨_, e, _⟩ | ⟨_, e, _⟩
    · have h2 := ho.dsz; simp only at e; unfold reach at h2; omega
    · simp only at e; omega
  clear h ho hF hS hC ihl ihd hall hnF
  go_enter Tryd.func33, Tryd.ntmps33
  by_cases hl0 : lf = 0
  · subst hl0
    go_wp2_with fail
    exact bodyPost_ret (results_none (by kernel_rfl) _ _ _) rfl ⟨rfl, I0.out.s, I0.out.ch⟩
  have hl0' : (lf == 0) = false := by simpa using hl0
  have hlp : 0 ≤ lf - 1 := by omega
  have hlq : lf - 1 ≤ 1000 := by omega
  clear hl0
  go_wp2_with fail
  go_loopw [4] (fun v4 wr => ∃ i : Nat, i ≤ cln ∧ v4 = .int .i64 i ∧ SpI F w w0 ⟨ck, cn, ct, cLA, cln, clc, cDA, cdn, cdc⟩ wr) (fun v4 _ => cln - (intOf v4).toNat)
  case atStart => exact ⟨0, Nat.zero_le _, rfl, I0.out⟩
  case round =>
    obtain ⟨i, hi, rfl, I⟩ := hrel
    have J := Lib.hid I
    by_cases hlt : i < cln
    · have hln : cLA = c.LA ∧ cln = c.ln ∧ clc = c.lc := by
        rcases HC.out.l with e | ⟨_, e, _⟩
        · exact e
        · simp only at e; omega
      obtain ⟨b, off, hLA, hFt, hel⟩ := HO.out.la (by omega)
      rw [← hln.1] at hLA
      subst hLA
      obtain ⟨y, hy⟩ : ∃ y, l[i]? = some y := ⟨_, List.getElem?_eq_getElem (by have := HO.out.ln; simp only [Val.l] at this; omega)⟩
      obtain ⟨e, he, hr⟩ := hel i y hy
      obtain ⟨e', he', hsim⟩ := I.s.vat hFt.1 he
      have HR := Lib.hid hr
      have HE := Lib.hid he
      have HSm := Lib.hid hsim
      have HFb := Lib.hid hFt.1
      have HY := Lib.hid (List.mem_of_getElem? hy)
      have hbl := (HF.out b hFt.1).1
      obtain ⟨a0, a1, a2, a3, a4⟩ := VAt.of_blk I.b
      obtain ⟨y0, y1, y2, y3, y4⟩ := he'
      have i0' : (0 : Int) ≤ (i : Int) := by omega
      have i1' : (i : Int) < (cln : Int) := by omega
      clear hln hFt hel hy he hr hsim I
      go_wp2_with fail
      refine (IHL.out y HY.out e e' (lf - 1) w _ HR.out HF.out J.out.s HSm.out hlp hlq).mono ?_
      rintro z w2 ⟨rfl, hs2, hc2⟩
      have J2 : Hid (SpI F w w0 ⟨ck, cn, ct, some ⟨b, off, none⟩, cln, clc, cDA, cdn, cdc⟩ w2) := Lib.hid ⟨hc2.blk J.out.b HnF.out, hs2, J.out.ch.trans hc2⟩
      clear hs2 hc2 a0 a1 a2 a3 a4 y0 y1 y2 y3 y4 J
      obtain ⟨a0, a1, a2, a3, a4⟩ := VAt.of_blk J2.out.b
      obtain ⟨e2, he2, _⟩ := J2.out.s.vat HFb.out HE.out
      obtain ⟨y0, y1, y2, y3, y4⟩ := he2
      have zf : ∀ o, w2.frozen? ⟨b, o, none⟩ = false := fun o => (J2.out.s.fr b o HFb.out hbl).trans ((HF.out b HFb.out).2 o)
      go_upto_region 4 with fail
      have L : SpI F w w0 ⟨ck, cn, ct, some ⟨b, off, none⟩, cln, clc, cDA, cdn, cdc⟩ (setV w2 b (off + i * 5) ⟨11, 0, spoilt, none, 0, 0, none, 0, 0⟩) :=
        ⟨J2.out.b.farV (fun e => HnF.out (by rw [e]; exact HFb.out)) _ _, J2.out.s.setV HFb.out HE.out _ _ _, J2.out.ch.setV HFb.out⟩
      change (Code.region 4 _ _).wp _ _ _ (setV w2 b (off + i * 5) ⟨11, 0, spoilt, none, 0, 0, none, 0, 0⟩)
      generalize setV w2 b (off + i * 5) ⟨11, 0, spoilt, none, 0, 0, none, 0, 0⟩ = w3 at *
      have HI := Lib.hid L
      clear L J2 a0 a1 a2 a3 a4 y0 y1 y2 y3 y4 zf
      go_wp2_with fail
      go_roundw
      case rel => exact ⟨i + 1, by omega, by go_num, HI.out⟩
      case measure => simp [intOf]; omega
    · obtain ⟨a0, a1, a2, a3, a4⟩ := VAt.of_blk I.b
      clear I
      go_wp2_with fail
      clear a0 a1 a2 a3 a4
      go_loopw [5] (fun v5 wr => ∃ i : Nat, i ≤ cdn ∧ v5 = .int .i64 i ∧ SpI F w w0 ⟨ck, cn, ct, cLA, cln, clc, cDA, cdn, cdc⟩ wr) (fun v5 _ => cdn - (intOf v5).toNat)
      case atStart => exact ⟨0, Nat.zero_le _, rfl, J.out⟩
      case round =>
        clear J
        obtain ⟨j, hj, rfl, I⟩ := hrel
        have J := Lib.hid I
        by_cases hjt : j < cdn
        · have hdn : cDA = c.DA ∧ cdn = c.dn ∧ cdc = c.dc := by
            rcases HC.out.d with e | ⟨_, e, _⟩
            · exact e
            · simp only at e; omega
          obtain ⟨b, off, hDA, hFt, hel⟩ := HO.out.da (by omega)
          rw [← hdn.1] at hDA
          subst hDA
          obtain ⟨f, hf⟩ : ∃ f, d[j]? = some f := ⟨_, List.getElem?_eq_getElem (by have := HO.out.dn; simp only [Val.d] at this; omega)⟩
          obtain ⟨hs0, _, e, he, hr⟩ := hel j f hf
          obtain ⟨e', he', hsim⟩ := I.s.vat hFt.1 he
          have HR := Lib.hid hr
          have HE := Lib.hid he
          have HS0 := Lib.hid hs0
          have HSm := Lib.hid hsim
          have HFb := Lib.hid hFt.1
          have HY := Lib.hid (List.mem_of_getElem? hf)
          have hbl := (HF.out b hFt.1).1
          obtain ⟨a0, a1, a2, a3, a4⟩ := VAt.of_blk I.b
          obtain ⟨y0, y1, y2, y3, y4⟩ := he'
          have i0' : (0 : Int) ≤ (j : Int) := by omega
          have i1' : (j : Int) < (cdn : Int) := by omega
          clear hdn hFt hel hf he hr hsim I hs0
          go_wp2_with fail
          refine (IHD.out f HY.out e e' (lf - 1) w _ HR.out HF.out J.out.s HSm.out hlp hlq).mono ?_
          rintro z w2 ⟨rfl, hs2, hc2⟩
          have J2 : Hid (SpI F w w0 ⟨ck, cn, ct, cLA, cln, clc, some ⟨b, off, none⟩, cdn, cdc⟩ w2) := Lib.hid ⟨hc2.blk J.out.b HnF.out, hs2, J.out.ch.trans hc2⟩
          clear hs2 hc2 a0 a1 a2 a3 a4 y0 y1 y2 y3 y4 J
          obtain ⟨a0, a1, a2, a3, a4⟩ := VAt.of_blk J2.out.b
          obtain ⟨e2, he2, _⟩ := J2.out.s.vat HFb.out HE.out
          obtain ⟨y0, y1, y2, y3, y4⟩ := he2
          obtain ⟨vs, hvs, hvm⟩ := J2.out.s.cell b _ _ HFb.out HS0.out
          obtain ⟨ts, rfl⟩ := hvm.str rfl
          have zf : ∀ o, w2.frozen? ⟨b, o, none⟩ = false := fun o => (J2.out.s.fr b o HFb.out hbl).trans ((HF.out b HFb.out).2 o)
          go_upto_region 9 with fail
          have L : SpI F w w0 ⟨ck, cn, ct, cLA, cln, clc, some ⟨b, off, none⟩, cdn, cdc⟩ (setV (w2.setCell ⟨b, off + j * 6, none⟩ (.string spoilt)) b (off + j * 6 + 1) VC.zero) :=
            ⟨(J2.out.b.far (p := ⟨b, off + j * 6, none⟩) (fun e => HnF.out (by rw [show w0.heap.size = b from e]; exact HFb.out)) _).farV (fun e => HnF.out (by rw [e]; exact HFb.out)) _ _, J2.out.s.setF HFb.out HS0.out HE.out _, (J2.out.ch.set HFb.out).setV HFb.out⟩
          change (Code.region 9 _ _).wp _ _ _ (setV (w2.setCell ⟨b, off + j * 6, none⟩ (.string spoilt)) b (off + j * 6 + 1) VC.zero)
          generalize setV (w2.setCell ⟨b, off + j * 6, none⟩ (.string spoilt)) b (off + j * 6 + 1) VC.zero = w3 at *
          have HI := Lib.hid L
          clear L J2 a0 a1 a2 a3 a4 y0 y1 y2 y3 y4 zf hvs
          go_wp2_with fail
          go_roundw
          case rel => exact ⟨j + 1, by omega, by go_num, HI.out⟩
          case measure => simp [intOf]; omega
        · obtain ⟨a0, a1, a2, a3, a4⟩ := VAt.of_blk I.b
          clear I
          go_wp2_with fail
          go_end0
          exact ⟨rfl, J.out.s, J.out.ch⟩

end Go.Proofs.YtckeccfbadlhhaaDoor
