/- The contracts of slices.IndexFunc at chunks, of the functions that are handed to it, and of begins and Find. -/
import Derived.Test.YtgcklgkhdokchaaDoorChNames
namespace Go.Proofs.YtgcklgkhdokchaaDoor
open Go.RowKit

set_option maxRecDepth 100000 in
set_option maxHeartbeats 1000000 in
theorem indexC_any (f : FuncId) (m : Nat) (p : Ch → Bool) (l : List Ch) (A : Option Addr) (n c : Nat) (w : World) (h : CS w A n c l)
    (hent : ∀ args w, (callFunc f args).run Tryd.prog w = .ok (.enter f args) w)
    (hs : ∀ (x : Ch) (wr : World), Below w.heap.size w wr → Calls Tryd.prog f #[aggC x, .pointer (some ⟨m, 0, none⟩)] wr fun e w' => e = .returned (.bool (p x)) ∧ Below wr.heap.size wr w') :
    Calls Tryd.prog 36 #[.slice A n c, .func (.func f) #[] #[.pointer (some ⟨m, 0, none⟩)]] w fun e w' => e = .returned (.int .i64 (idxI p l)) ∧ Below w.heap.size w w' := by
  have hz : n ≤ 140737488355328 := by have := h.sz; unfold reach at this; omega
  have H := Lib.hid h
  have HS := Lib.hid hs
  clear h hs
  go_enter Tryd.func36, Tryd.ntmps36
  go_wp2_with fail
  go_loopw [8] (fun v wr => ∃ i : Nat, i ≤ n ∧ v = .int .i64 i ∧ idxI p l = idxFrom p (l.drop i) i ∧ Below w.heap.size w wr) (fun v _ => n - (intOf v).toNat)
  case atStart => exact ⟨0, Nat.zero_le _, rfl, rfl, Below.refl _ _⟩
  case round =>
    obtain ⟨i, hi, rfl, ha, hbel⟩ := hrel
    have HA := Lib.hid ha
    have HB := Lib.hid hbel
    clear ha
    by_cases hlt : i < n
    · obtain ⟨b, off, x, hA, hb, hx, e0, e1, e2, e3, e4⟩ := H.out.sr.at5 hlt
      subst hA
      have HX := Lib.hid (idxFrom_at (p := p) hx)
      have g0 := (hbel.cell (p := ⟨b, off + i * 5, none⟩) hb).trans e0
      have g1 := (hbel.cell (p := ⟨b, off + i * 5 + 1, none⟩) hb).trans e1
      have g2 := (hbel.cell (p := ⟨b, off + i * 5 + 2, none⟩) hb).trans e2
      have g3 := (hbel.cell (p := ⟨b, off + i * 5 + 3, none⟩) hb).trans e3
      have g4 := (hbel.cell (p := ⟨b, off + i * 5 + 4, none⟩) hb).trans e4
      clear hx e0 e1 e2 e3 e4 hbel
      go_wp2_with fail
      refine (HS.out x _ HB.out).mono ?_
      rintro e w1 ⟨rfl, hb1⟩
      have HB1 := Lib.hid (HB.out.step' hb1)
      clear hb1 g0 g1 g2 g3 g4
      cases hq : p x
      · have HF : Hid (idxI p l = idxFrom p (l.drop (i + 1)) (i + 1)) := by rw [Hid, HA.out, HX.out, hq]; rfl
        go_wp2_with fail
        go_roundw
        case rel => exact ⟨i + 1, by omega, by go_num, HF.out, HB1.out⟩
        case measure => simp [intOf]; omega
      · have HF : Hid (idxI p l = (i : Int)) := by rw [Hid, HA.out, HX.out, hq]; rfl
        go_wp2_with fail
        go_ret
        exact ⟨by rw [HF.out]; rfl, HB1.out⟩
    · have HF : Hid (idxI p l = -1) := by rw [Hid, HA.out]; exact idxFrom_end (by have := H.out.ln; omega)
      clear hbel
      go_wp2_with fail
      go_ret
      exact ⟨by rw [HF.out]; rfl, HB.out⟩

theorem beg1_any (x : Ch) (m : Nat) (key : ByteArray) (w : World) (h : w.cell? ⟨m, 0, none⟩ = some (.string key)) :
    Calls Tryd.prog 52 #[aggC x, .pointer (some ⟨m, 0, none⟩)] w fun e w' => e = .returned (.bool (begB key x)) ∧ Below w.heap.size w w' := by
  have hm := World.block_lt_of_cell? w _ h
  go_enter Tryd.func52, Tryd.ntmps52
  go_wp2_with fail
  go_ret
  exact ⟨rfl, (Below.refl _ _).alloc (Nat.le_refl _) _⟩
theorem give1_any (x : Ch) (m : Nat) (s : Int) (w : World) (h : w.cell? ⟨m, 0, none⟩ = some (.int .i64 s)) :
    Calls Tryd.prog 38 #[aggC x, .pointer (some ⟨m, 0, none⟩)] w fun e w' => e = .returned (.bool (shB s x)) ∧ Below w.heap.size w w' := by
  have hm := World.block_lt_of_cell? w _ h
  go_enter Tryd.func38, Tryd.ntmps38
  go_wp2_with fail
  go_ret
  exact ⟨rfl, (Below.refl _ _).alloc (Nat.le_refl _) _⟩
set_option maxHeartbeats 1000000 in
theorem find1_any (x : Ch) (m : Nat) (key : ByteArray) (w : World) (h : w.cell? ⟨m, 0, none⟩ = some (.string key)) :
    Calls Tryd.prog 37 #[aggC x, .pointer (some ⟨m, 0, none⟩)] w fun e w' => e = .returned (.bool (inB key x)) ∧ Below w.heap.size w w' := by
  have hm := World.block_lt_of_cell? w _ h
  cases h1 : Op.bytesLess key.toList x.lo.toList
  · cases h2 : (x.hi.toList == [])
    · have HV : Hid (inB key x = Op.bytesLess key.toList x.hi.toList) := by unfold Hid inB; rw [h1, h2]; rfl
      go_enter Tryd.func37, Tryd.ntmps37
      go_wp2_with fail
      go_ret
      exact ⟨by rw [HV.out]; rfl, (Below.refl _ _).alloc (Nat.le_refl _) _⟩
    · have HV : Hid (inB key x = true) := by unfold Hid inB; rw [h1, h2]; rfl
      go_enter Tryd.func37, Tryd.ntmps37
      go_wp2_with fail
      go_ret
      exact ⟨by rw [HV.out]; rfl, (Below.refl _ _).alloc (Nat.le_refl _) _⟩
  · have HV : Hid (inB key x = false) := by unfold Hid inB; rw [h1]; rfl
    go_enter Tryd.func37, Tryd.ntmps37
    go_wp2_with fail
    go_ret
    exact ⟨by rw [HV.out]; rfl, (Below.refl _ _).alloc (Nat.le_refl _) _⟩

set_option maxRecDepth 100000 in
theorem begins_any (R : Ro) (a : RA) (key : ByteArray) (w : World) (h : RR w a R) :
    Calls Tryd.prog 32 #[rval a R, .string key] w fun e w' => e = .returned (.int .i64 (idxI (begB key) R.cs)) ∧ Below w.heap.size w w' := by
  have HA2 := Lib.hid (((Below.refl w.heap.size w).alloc (Nat.le_refl _) (Obj.cells (rarr a R) 30)).alloc (by simp) (Obj.cells #[.string key] 9))
  have HB : Hid (Blk ((w.alloc (Obj.cells (rarr a R) 30)).alloc (Obj.cells #[.string key] 9)) (w.heap.size + 1) 9 #[.string key]) := Blk.new_at (by simp)
  have H := Lib.hid h
  clear h
  go_enter Tryd.func32, Tryd.ntmps32
  go_wp2_with fail
  refine (indexC_any _ _ (begB key) R.cs _ _ _ _ (H.out.cs.step HA2.out) (fun _ _ => rfl) fun x wr hb => beg1_any x _ key wr (((HB.out.step hb).cell 0))).mono ?_
  rintro e w1 ⟨rfl, hb1⟩
  go_wp2_with fail
  go_ret
  exact ⟨rfl, HA2.out.step' hb1⟩
set_option maxRecDepth 100000 in
theorem find_any (R : Ro) (a : RA) (key : ByteArray) (w : World) (h : RR w a R) :
    Calls Tryd.prog 18 #[rval a R, .string key] w fun e w' => e = .returned (.int .i64 (idxI (inB key) R.cs)) ∧ Below w.heap.size w w' := by
  have HA2 := Lib.hid (((Below.refl w.heap.size w).alloc (Nat.le_refl _) (Obj.cells (rarr a R) 30)).alloc (by simp) (Obj.cells #[.string key] 9))
  have HB : Hid (Blk ((w.alloc (Obj.cells (rarr a R) 30)).alloc (Obj.cells #[.string key] 9)) (w.heap.size + 1) 9 #[.string key]) := Blk.new_at (by simp)
  have H := Lib.hid h
  clear h
  go_enter Tryd.func18, Tryd.ntmps18
  go_wp2_with fail
  refine (indexC_any _ _ (inB key) R.cs _ _ _ _ (H.out.cs.step HA2.out) (fun _ _ => rfl) fun x wr hb => find1_any x _ key wr (((HB.out.step hb).cell 0))).mono ?_
  rintro e w1 ⟨rfl, hb1⟩
  go_wp2_with fail
  go_ret
  exact ⟨rfl, HA2.out.step' hb1⟩

end Go.Proofs.YtgcklgkhdokchaaDoor
