/- Contracts of value.Get and of the reference's at and Get. -/
import Derived.Test.YtckeccfbadlhhaaDoorValClone
namespace Go.Proofs.YtckeccfbadlhhaaDoor
open Go.RowKit

theorem findFrom_range (name : ByteArray) (d : List Fld) : ∀ i : Nat, findFrom name d i = -1 ∨ ∃ j : Nat, findFrom name d i = (i + j : Nat) ∧ j < d.length := by
  induction d with
  | nil => intro i; exact .inl rfl
  | cons f r ih =>
    intro i
    simp only [findFrom]
    split
    · exact .inr ⟨0, by simp, by simp⟩
    · rcases ih (i + 1) with h | ⟨j, h1, h2⟩
      · exact .inl h
      · exact .inr ⟨j + 1, by rw [h1]; congr 1; omega, by simp; omega⟩
theorem findI_range (x : Val) (name : ByteArray) : findI x name = -1 ∨ ∃ j : Nat, findI x name = j ∧ ∃ f, x.d[j]? = some f := by
  unfold findI
  split
  · rcases findFrom_range name x.d 0 with h | ⟨j, h1, h2⟩
    · exact .inl h
    · exact .inr ⟨j, by rw [h1]; simp, _, List.getElem?_eq_getElem h2⟩
  · exact .inl rfl

/-- the field that Get returns -/
def getV (x : Val) (name : ByteArray) : Option Val := if 0 ≤ findI x name then (x.d[(findI x name).toNat]?).map Fld.v else none
theorem getV_none {x : Val} {name : ByteArray} (h : findI x name = -1) : getV x name = none := by simp [getV, h]
theorem getV_some {x : Val} {name : ByteArray} {j : Nat} {f : Fld} (h : findI x name = j) (hf : x.d[j]? = some f) : getV x name = some f.v := by
  simp [getV, h, hf]

theorem results_val_ok {fn : Func} {p u : Tmp} (h : fn.results = #[.cell p 25, .tmp u]) (tmps : Array Value) (g1 off : Nat) (h1 : tmps.getD p undef = .pointer (some ⟨g1, off, none⟩)) (e : Value) (h2 : tmps.getD u undef = e)
    (W : World) (v : VC) (q : VAt W g1 off v) : (results fn tmps).run Tryd.prog W = .ok (.tuple #[v.val, e]) W := by
  obtain ⟨q0, q1, q2, q3, q4⟩ := q
  rw [results_cell_tmp h, h1, h2]
  simp [asAddr, go_sem, q0, q1, q2, q3, q4]

/-- what Get hands back: a copy in new memory, from block lo on -/
def GetOk (x : Val) (name : ByteArray) (w : World) (e : Ending) (w' : World) : Prop :=
  ∃ (c : VC), e = .returned (.tuple #[c.val, .bool (getV x name).isSome]) ∧ RV (fun b => w.heap.size ≤ b) w' c ((getV x name).getD Val.zero) ∧ Below w.heap.size w w'

set_option maxHeartbeats 1000000 in
theorem get_any (x : Val) (c : VC) (name : ByteArray) (w : World) (h : RW w c x) :
    Calls Tryd.prog 26 #[c.val, .string name] w (GetOk x name w) := by
  have H := Lib.hid h
  clear h
  go_enter Tryd.func26, Tryd.ntmps26
  go_wp2_with fail
  refine (find_any x c name _ ((H.out.alloc _).alloc _)).mono ?_
  rintro e w1 ⟨rfl, hb⟩
  have B0 : Blk w1 w.heap.size 25 c.arr := ((Blk.new_at rfl).alloc _).step hb
  have B1 : Blk w1 (w.heap.size + 1) 25 VC.zero.arr := (Blk.new_at (by simp)).step hb
  have B2 : Below w.heap.size w w1 := (((Below.refl _ _).alloc (Nat.le_refl _) _).alloc (by simp) _).trans (hb.mono (by simp; omega))
  clear hb
  have J0 := Lib.hid B0
  have J1 := Lib.hid B1
  have J2 := Lib.hid B2
  obtain ⟨b0, b1, b2, b3, b4⟩ := VAt.of_blk B1
  have e4 := B0.cell 4
  have z := B1.frozen
  simp at e4
  clear B0 B1 B2
  rcases findI_range x name with hf | ⟨j, hf, f, hj⟩
  · have HG := Lib.hid (getV_none hf)
    rw [hf]
    clear hf
    go_wp2_with fail
    have q := VAt.of_blk (J1.out.putV VC.zero)
    refine bodyPost_ret (results_val_ok rfl _ _ _ rfl _ rfl _ VC.zero q) rfl ?_
    refine ⟨VC.zero, ?_, ?_, below_setV J2.out (by omega) 0 VC.zero⟩
    · rw [HG.out]; rfl
    · rw [HG.out]; exact RV.zero
  · have HG := Lib.hid (getV_some hf hj)
    rw [hf]
    clear hf
    have ho := H.out.open
    have hjlt : j < c.dn := by have := (List.getElem?_eq_some_iff.1 hj).1; have := ho.dn; omega
    have hdz : c.dn ≤ 140737488355328 := by have := ho.dsz; unfold reach at this; omega
    obtain ⟨b, off, hDA, _, hel⟩ := ho.da (by omega)
    obtain ⟨_, _, u, hu, hr⟩ := hel j f hj
    rw [hDA] at e4
    obtain ⟨u0, u1, u2, u3, u4⟩ := hu.keep (J2.out.block b hu.lt)
    have HR := Lib.hid (hr.lt.step' J2.out)
    clear ho hel hr hu hDA hj
    go_wp2_with fail
    have hlt : w.heap.size + 1 < w1.heap.size := J1.out.lt
    refine (clone_any f.v u _ HR.out).mono ?_
    rintro e w2 ⟨c', mid, rfl, hcl, hb⟩
    have K1 := J1.out.step hb
    have K2 := J2.out.step' hb
    have LC := Lib.hid hcl
    clear b0 b1 b2 b3 b4 z e4 u0 u1 u2 u3 u4 J0 J1 J2 hcl hb HR
    obtain ⟨b0, b1, b2, b3, b4⟩ := VAt.of_blk K1
    have z := K1.frozen
    have L1 := Lib.hid K1
    have L2 := Lib.hid K2
    clear K1 K2
    go_wp2_with fail
    have q := VAt.of_blk (L1.out.putV c')
    refine bodyPost_ret (results_val_ok rfl _ _ _ rfl _ rfl _ c' q) rfl ?_
    refine ⟨c', ?_, ?_, below_setV L2.out (by omega) 0 c'⟩
    · rw [HG.out]; rfl
    · rw [HG.out]
      exact ((LC.out.keep (w' := setV w2 (w.heap.size + 1) 0 c') fun q hq => heap_setV (by omega)).rv).mono fun q hq => by omega

set_option maxHeartbeats 1000000 in
theorem rat_any (x : Val) (c : VC) (name : ByteArray) (w : World) (h : RW w c x) :
    Calls Tryd.prog 49 #[c.val, .string name] w fun e w' => e = .returned (.int .i64 (findI x name)) ∧ Below w.heap.size w w' := by
  have HO := Lib.hid h.open
  clear h
  cases hk : (c.k != 5)
  · have hn : c.dn ≤ 140737488355328 := by have := HO.out.dsz; unfold reach at this; omega
    have HE : Hid (findI x name = findFrom name x.d 0) := by
      have := HO.out.k
      simp at hk
      simp [findI, ← this, hk, Hid]
    go_enter Tryd.func49, Tryd.ntmps49
    go_wp2_with fail
    go_loopw [4, 5] (fun v4 v5 wr => ∃ i : Nat, i ≤ c.dn ∧ v4 = .int .i64 0 ∧ v5 = .int .i64 i ∧ findFrom name x.d 0 = findFrom name (x.d.drop i) i ∧ Blk wr w.heap.size 25 c.arr ∧ Below w.heap.size w wr) (fun _ v5 _ => c.dn - (intOf v5).toNat)
    case atStart => exact ⟨0, Nat.zero_le _, rfl, rfl, rfl, Blk.new_at rfl, (Below.refl _ _).alloc (Nat.le_refl _) _⟩
    case round =>
      obtain ⟨i, hi, rfl, rfl, hall, N1, N2⟩ := hrel
      have e4 := N1.cell 4
      simp at e4
      have HA := Lib.hid hall
      clear hall
      by_cases hlt : i < c.dn
      · obtain ⟨b, off, hDA, _, hel⟩ := HO.out.da (by omega)
        obtain ⟨f, hf⟩ : ∃ f, x.d[i]? = some f := ⟨_, List.getElem?_eq_getElem (by have := HO.out.dn; omega)⟩
        obtain ⟨hs, _, _⟩ := hel i f hf
        have hs' := (N2.cell (p := ⟨b, off + i * 6, none⟩) (World.block_lt_of_cell? w _ hs)).trans hs
        have e4' := e4
        rw [hDA] at e4
        have HD := Lib.hid (drop_of hf)
        have J1 := Lib.hid N1
        have J2 := Lib.hid N2
        clear hs hel hf hDA N1 N2 e4'
        cases hq : (f.s.toList == name.toList)
        · have HF : Hid (findFrom name x.d 0 = findFrom name (x.d.drop (i + 1)) (i + 1)) := by rw [Hid, HA.out, HD.out, findFrom, hq]; rfl
          go_wp2_with fail
          go_roundw
          case rel => exact ⟨i + 1, by omega, rfl, by go_num, HF.out, J1.out, J2.out⟩
          case measure => simp [intOf]; omega
        · have HF : Hid (findFrom name x.d 0 = (i : Int)) := by rw [Hid, HA.out, HD.out, findFrom, hq]; rfl
          go_wp2_with fail
          go_ret
          exact ⟨by rw [HE.out, HF.out]; rfl, J2.out⟩
      · have HF : Hid (findFrom name x.d 0 = -1) := by rw [Hid, HA.out, List.drop_of_length_le (by have := HO.out.dn; omega)]; rfl
        have J2 := Lib.hid N2
        clear N1 N2
        go_wp2_with fail
        go_ret
        exact ⟨by rw [HE.out, HF.out]; rfl, J2.out⟩
  · have HE : Hid (findI x name = -1) := by
      have := HO.out.k
      simp at hk
      simp [findI, ← this, hk, Hid]
    go_enter Tryd.func49, Tryd.ntmps49
    go_wp2_with fail
    go_ret
    exact ⟨by rw [HE.out]; rfl, (Below.refl _ _).alloc (Nat.le_refl _) _⟩

/-- what the reference's Get hands back: the field itself -/
def RGetOk (x : Val) (name : ByteArray) (w : World) (e : Ending) (w' : World) : Prop :=
  ∃ (c : VC), e = .returned (.tuple #[c.val, .bool (getV x name).isSome]) ∧ RW w' c ((getV x name).getD Val.zero) ∧ Below w.heap.size w w'

set_option maxHeartbeats 1000000 in
theorem rget_any (x : Val) (c : VC) (name : ByteArray) (w : World) (h : RW w c x) :
    Calls Tryd.prog 27 #[c.val, .string name] w (RGetOk x name w) := by
  have H := Lib.hid h
  clear h
  go_enter Tryd.func27, Tryd.ntmps27
  go_wp2_with fail
  refine (rat_any x c name _ ((H.out.alloc _).alloc _)).mono ?_
  rintro e w1 ⟨rfl, hb⟩
  have B0 : Blk w1 w.heap.size 25 c.arr := ((Blk.new_at rfl).alloc _).step hb
  have B1 : Blk w1 (w.heap.size + 1) 25 VC.zero.arr := (Blk.new_at (by simp)).step hb
  have B2 : Below w.heap.size w w1 := (((Below.refl _ _).alloc (Nat.le_refl _) _).alloc (by simp) _).trans (hb.mono (by simp; omega))
  clear hb
  have J1 := Lib.hid B1
  have J2 := Lib.hid B2
  obtain ⟨b0, b1, b2, b3, b4⟩ := VAt.of_blk B1
  have e4 := B0.cell 4
  have z := B1.frozen
  simp at e4
  clear B0 B1 B2
  rcases findI_range x name with hf | ⟨j, hf, f, hj⟩
  · have HG := Lib.hid (getV_none hf)
    rw [hf]
    clear hf
    go_wp2_with fail
    have q := VAt.of_blk (J1.out.putV VC.zero)
    refine bodyPost_ret (results_val_ok rfl _ _ _ rfl _ rfl _ VC.zero q) rfl ?_
    refine ⟨VC.zero, ?_, ?_, below_setV J2.out (by omega) 0 VC.zero⟩
    · rw [HG.out]; rfl
    · rw [HG.out]; exact RV.zero
  · have HG := Lib.hid (getV_some hf hj)
    rw [hf]
    clear hf
    have ho := H.out.open
    have hjlt : j < c.dn := by have := (List.getElem?_eq_some_iff.1 hj).1; have := ho.dn; omega
    have hdz : c.dn ≤ 140737488355328 := by have := ho.dsz; unfold reach at this; omega
    obtain ⟨b, off, hDA, _, hel⟩ := ho.da (by omega)
    obtain ⟨_, _, u, hu, hr⟩ := hel j f hj
    rw [hDA] at e4
    obtain ⟨u0, u1, u2, u3, u4⟩ := hu.keep (J2.out.block b hu.lt)
    have HR := Lib.hid (hr.lt.keepG (G := fun q => q < w.heap.size) (w' := setV w1 (w.heap.size + 1) 0 u) fun q hq _ => ⟨hq.2, by rw [heap_setV (by omega)]; exact J2.out.block q hq.2⟩)
    clear ho hel hr hu hDA hj
    go_wp2_with fail
    have q := VAt.of_blk (J1.out.putV u)
    refine bodyPost_ret (results_val_ok rfl _ _ _ rfl _ rfl _ u q) rfl ?_
    refine ⟨u, ?_, ?_, below_setV J2.out (by omega) 0 u⟩
    · rw [HG.out]; rfl
    · rw [HG.out]
      exact HR.out.mono fun _ _ => trivial

end Go.Proofs.YtckeccfbadlhhaaDoor
