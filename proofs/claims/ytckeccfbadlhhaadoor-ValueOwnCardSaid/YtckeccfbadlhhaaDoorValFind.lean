/- Contracts of value.find and of the reference's at. -/
import Derived.Test.YtckeccfbadlhhaaDoorVal
namespace Go.Proofs.YtckeccfbadlhhaaDoor
open Go.RowKit

/-- the index of the first field with a name, -1 if there is none -/
def findFrom (name : ByteArray) : List Fld → Nat → Int
  | [], _ => -1
  | f :: r, i => if f.s.toList == name.toList then (i : Int) else findFrom name r (i + 1)
def findI (x : Val) (name : ByteArray) : Int := if x.k == 5 then findFrom name x.d 0 else -1

set_option maxHeartbeats 1000000 in
theorem find_any (x : Val) (c : VC) (name : ByteArray) (w : World) (h : RW w c x) :
    Calls Tryd.prog 48 #[c.val, .string name] w fun e w' => e = .returned (.int .i64 (findI x name)) ∧ Below w.heap.size w w' := by
  have HO := Lib.hid h.open
  clear h
  cases hk : (c.k != 5)
  · have hn : c.dn ≤ 140737488355328 := by have := HO.out.dsz; unfold reach at this; omega
    have HE : Hid (findI x name = findFrom name x.d 0) := by
      have := HO.out.k
      simp at hk
      simp [findI, ← this, hk, Hid]
    go_enter Tryd.func48, Tryd.ntmps48
    go_wp2_with fail
    go_loopw [4, 5, 12] (fun v4 v5 v12 wr => ∃ i : Nat, i ≤ c.dn ∧ v4 = .int .i64 0 ∧ v12 = .int .i64 i ∧ findFrom name x.d 0 = findFrom name (x.d.drop i) i ∧ Blk wr w.heap.size 25 c.arr ∧ Below w.heap.size w wr) (fun _ _ v12 _ => c.dn - (intOf v12).toNat)
    case atStart => exact ⟨0, Nat.zero_le _, rfl, rfl, rfl, Blk.new_at rfl, (Below.refl _ _).alloc (Nat.le_refl _) _⟩
    case round =>
      obtain ⟨i, hi, rfl, rfl, hall, N1, N2⟩ := hrel
      have e4 := N1.cell 4
      simp at e4
      have HA := Lib.hid hall
      clear hall
      by_cases hlt : i < c.dn
      · obtain ⟨b, off, hDA, _, hel⟩ := HO.out.da (by omega)
        obtain ⟨f, hf⟩ : ∃ f, x.d[i]? = some f := ⟨_, List.getElem?_eq_getElem (by have := HO.out.dn; omega)⟩
        obtain ⟨hs, _, _⟩ := hel i f hf
        have hs' := (N2.cell (p := ⟨b, off + i * 6, none⟩) (World.block_lt_of_cell? w _ hs)).trans hs
        rw [hDA] at e4
        have HD := Lib.hid (drop_of hf)
        have J1 := Lib.hid N1
        have J2 := Lib.hid N2
        clear hs hel hf hDA N1 N2
        cases hq : (f.s.toList == name.toList)
        · have HF : Hid (findFrom name x.d 0 = findFrom name (x.d.drop (i + 1)) (i + 1)) := by rw [Hid, HA.out, HD.out, findFrom, hq]; rfl
          go_wp2_with fail
          go_roundw
          case rel => exact ⟨i + 1, by omega, rfl, by go_num, HF.out, J1.out, J2.out⟩
          case measure => simp [intOf]; omega
        · have HF : Hid (findFrom name x.d 0 = (i : Int)) := by rw [Hid, HA.out, HD.out, findFrom, hq]; rfl
          go_wp2_with fail
          go_ret
          exact ⟨by rw [HE.out, HF.out]; rfl, J2.out⟩
      · have HF : Hid (findFrom name x.d 0 = -1) := by rw [Hid, HA.out, List.drop_of_length_le (by have := HO.out.dn; omega)]; rfl
        have J2 := Lib.hid N2
        clear N1 N2
        go_wp2_with fail
        go_ret
        exact ⟨by rw [HE.out, HF.out]; rfl, J2.out⟩
  · have HE : Hid (findI x name = -1) := by
      have := HO.out.k
      simp at hk
      simp [findI, ← this, hk, Hid]
    go_enter Tryd.func48, Tryd.ntmps48
    go_wp2_with fail
    go_ret
    exact ⟨by rw [HE.out]; rfl, (Below.refl _ _).alloc (Nat.le_refl _) _⟩

end Go.Proofs.YtckeccfbadlhhaaDoor
