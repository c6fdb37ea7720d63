/- The contract of the reference's fields, given that of formed. -/
import Derived.Test.YtdmabhbhlnpkgaaDoorValSoundPure
import Derived.Test.YtdmabhbhlnpkgaaDoorValSame
namespace Go.Proofs.YtdmabhbhlnpkgaaDoor
open Go.RowKit

def nmOf (names : Bool) : ByteArray → Bool := if names then nameB else wideB
def RFormedAt (x : Val) : Prop := ∀ (names : Bool) (c : VC) (w : World), RW w c x →
    Calls Tryd.prog 47 #[c.val, .bool names] w fun e w' => e = .returned (.bool (soundB (nmOf names) x)) ∧ Below w.heap.size w w'

theorem not_mem_take {d : List Fld} {i : Nat} {s : ByteArray} (h : ∀ j g, j < i → d[j]? = some g → g.s ≠ s) : s ∉ (d.take i).map Fld.s := by
  intro hm
  obtain ⟨g, hg, rfl⟩ := List.mem_map.1 hm
  obtain ⟨j, hj⟩ := List.getElem?_of_mem hg
  have hlt : j < i := by
    have := (List.getElem?_eq_some_iff.1 hj).1
    simp at this
    omega
  rw [List.getElem?_take, if_pos hlt] at hj
  exact h j g hlt hj rfl
theorem mem_take {d : List Fld} {i j : Nat} {g : Fld} (hj : j < i) (h : d[j]? = some g) : g.s ∈ (d.take i).map Fld.s :=
  List.mem_map_of_mem (List.mem_of_getElem? (i := j) (by rw [List.getElem?_take, if_pos hj]; exact h))

/-- the blocks of fields -/
structure RfI (w : World) (c : VC) (g : Nat) (s : ByteArray) (wr : World) : Prop where
  b0 : Blk wr w.heap.size 30 c.arr
  s0 : wr.cell? ⟨g, 0, none⟩ = some (.string s)
  bel : Below w.heap.size w wr
theorem RfI.step {w wr w' : World} {c : VC} {g : Nat} {s : ByteArray} (h : RfI w c g s wr) (hb : Below wr.heap.size wr w') : RfI w c g s w' :=
  ⟨h.b0.step hb, (hb.cell (p := ⟨g, 0, none⟩) (World.block_lt_of_cell? wr _ h.s0)).trans h.s0, h.bel.step' hb⟩

set_option maxRecDepth 100000 in
set_option maxHeartbeats 2000000 in
theorem rfields_any (names : Bool) (x : Val) (c : VC) (w : World) (h : RW w c x) (ih : ∀ f ∈ x.d, RFormedAt f.v) :
    Calls Tryd.prog 61 #[c.val, .bool names] w fun e w' => e = .returned (.bool (fieldsB (nmOf names) x.d)) ∧ Below w.heap.size w w' := by
  obtain ⟨ck, cn, ct, LA, ln, lc, DA, dn, dc⟩ := c
  obtain ⟨fs, hfs, hfl⟩ := h.sd
  simp only at hfl
  have hz := hfl.sz
  unfold reach at hz
  have HF := Lib.hid hfl
  have HN := Lib.hid hfl.sr.ln
  have HS := Lib.hid hfs
  have IH := Lib.hid ih
  obtain ⟨nm, hnm⟩ : ∃ nm, nmOf names = nm := ⟨_, rfl⟩
  have HNM := Lib.hid hnm
  rw [hnm]
  clear h hfs hfl ih hnm
  go_enter Tryd.func61, Tryd.ntmps61
  go_wp2_with fail
  go_loopw [5] (fun v5 wr => ∃ i : Nat, i ≤ dn ∧ v5 = .int .i64 i ∧ FieldsP nm (x.d.take i) ∧ Blk wr w.heap.size 30 (VC.arr ⟨ck, cn, ct, LA, ln, lc, DA, dn, dc⟩) ∧ Below w.heap.size w wr) (fun v5 _ => dn - (intOf v5).toNat)
  case atStart => exact ⟨0, Nat.zero_le _, rfl, by rw [List.take_zero]; exact FieldsP.nil, Blk.new_at rfl, (Below.refl _ _).alloc (Nat.le_refl _) _⟩
  case round =>
    obtain ⟨i, hi, rfl, hP, hK, hB⟩ := hrel
    have HP := Lib.hid hP
    have J := Lib.hid hB
    have q4 := hK.cell 4
    simp at q4
    by_cases hlt : i < dn
    · obtain ⟨p, hp⟩ : ∃ p, fs[i]? = some p := ⟨_, List.getElem?_eq_getElem (by have := HN.out; omega)⟩
      have hd : x.d[i]? = some p.2 := by rw [← HS.out, List.getElem?_map, hp]; rfl
      obtain ⟨b, off, hA, _, hs, hu, hr⟩ := HF.out.vat hp
      subst hA
      obtain ⟨y0, y1, y2, y3, y4⟩ := hu.keep (hB.block b hu.lt)
      have n0 := (hB.cell (p := ⟨b, off + i * 6, none⟩) hu.lt).trans hs
      have hb : b < wr.heap.size := by have := hu.lt; have := hB.size; omega
      have hA1 := (Below.refl wr.heap.size wr).alloc (Nat.le_refl _) (Obj.cells #[.string p.2.s, .int .i64 p.1.k, .int .i64 p.1.n, .string p.1.t, .slice p.1.LA p.1.ln p.1.lc, .slice p.1.DA p.1.dn p.1.dc] 61)
      have HI : Hid (RfI w ⟨ck, cn, ct, LA, ln, lc, some ⟨b, off, none⟩, dn, dc⟩ wr.heap.size p.2.s (wr.alloc (Obj.cells #[.string p.2.s, .int .i64 p.1.k, .int .i64 p.1.n, .string p.1.t, .slice p.1.LA p.1.ln p.1.lc, .slice p.1.DA p.1.dn p.1.dc] 61))) :=
        Lib.hid ⟨hK.step hA1, (Blk.new_at (w := wr) rfl).cell 0, hB.step' hA1⟩
      have HR := Lib.hid ((hr.step hB).step hA1)
      have HD := Lib.hid hd
      have HC := Lib.hid (IH.out p.2 (List.mem_of_getElem? hd))
      clear hp hd hs hu hr hP hB hA1 hK
      cases hnm : nm p.2.s
      · have HV := Lib.hid (fieldsB_false (FieldsP.not_name HD.out hnm))
        have hnm' : Hid (nmOf names p.2.s = false) := by rw [Hid, HNM.out]; exact hnm
        clear hnm
        cases names
        all_goals
          go_wp2_with fail
          first | (with_reducible refine (rname_any _ _).mono ?_) | (with_reducible refine (rwide_any _ _).mono ?_)
          rintro e w' ⟨rfl, rfl⟩
          first | rw [show nameB p.2.s = false from hnm'.out] | rw [show wideB p.2.s = false from hnm'.out]
          go_wp2_with fail
          go_ret
          exact ⟨by rw [HV.out]; rfl, HI.out.bel⟩
      have hnm' : Hid (nmOf names p.2.s = true) := by rw [Hid, HNM.out]; exact hnm
      have HNm := Lib.hid hnm
      clear hnm
      cases names
      all_goals
        go_wp2_with fail
        first | (with_reducible refine (rname_any _ _).mono ?_) | (with_reducible refine (rwide_any _ _).mono ?_)
        rintro e w' ⟨rfl, rfl⟩
        first | rw [show nameB p.2.s = true from hnm'.out] | rw [show wideB p.2.s = true from hnm'.out]
        go_wp2_with fail
        refine (HC.out _ p.1 _ HR.out).mono ?_
        rintro e w2 ⟨rfl, hb2⟩
        rw [HNM.out]
        have HI2 := Lib.hid (HI.out.step hb2)
        clear y0 y1 y2 y3 y4 n0 q4 hb2
        cases hso : soundB nm p.2.v
        · have HV := Lib.hid (fieldsB_false (FieldsP.not_sound HD.out (soundB_not.1 hso)))
          go_wp2_with fail
          go_ret
          exact ⟨by rw [HV.out]; rfl, HI2.out.bel⟩
        · have HSo := Lib.hid (soundB_iff.1 hso)
          clear hso
          go_wp2_with fail
          clear HI HR J HC hnm'
          generalize wr.heap.size = gF at *
          go_loopw [7] (fun v7 wi => ∃ j : Nat, j ≤ i ∧ v7 = .int .i64 j ∧ (∀ m g, m < j → x.d[m]? = some g → g.s ≠ p.2.s) ∧ RfI w ⟨ck, cn, ct, LA, ln, lc, some ⟨b, off, none⟩, dn, dc⟩ gF p.2.s wi) (fun v7 _ => i - (intOf v7).toNat)
          case atStart => exact ⟨0, Nat.zero_le _, rfl, fun m g h => by omega, HI2.out⟩
          case round =>
            obtain ⟨j, hj, rfl, hall, I⟩ := hrel
            have HAll := Lib.hid hall
            have K := Lib.hid I
            clear hall
            by_cases hjl : j < i
            · obtain ⟨q, hq⟩ : ∃ q, fs[j]? = some q := ⟨_, List.getElem?_eq_getElem (by have := HN.out; omega)⟩
              have hd2 : x.d[j]? = some q.2 := by rw [← HS.out, List.getElem?_map, hq]; rfl
              obtain ⟨b2, off2, hA2, _, hs2, hu2, _⟩ := HF.out.vat hq
              cases hA2
              have n1 := (I.bel.cell (p := ⟨b, off + j * 6, none⟩) hu2.lt).trans hs2
              have q4 := I.b0.cell 4
              have k0 := I.s0
              simp at q4
              have HD2 := Lib.hid hd2
              have hj0 : (0 : Int) ≤ (j : Int) := by omega
              have hj1 : (j : Int) < (dn : Int) := by omega
              clear hq hd2 hs2 hu2 I
              cases hc : (q.2.s.toList == p.2.s.toList)
              · have HA2 : Hid (∀ m g, m < j + 1 → x.d[m]? = some g → g.s ≠ p.2.s) := fun m g hm hg => by
                  by_cases e : m = j
                  · subst e
                    rw [HD2.out] at hg
                    cases hg
                    exact fun h => by rw [h] at hc; simp at hc
                  · exact HAll.out m g (by omega) hg
                go_upto_region 10 with fail
                go_quiet (fail)
                clear q4 k0 n1 hj0 hj1
                go_wp2_with fail
                go_roundw
                case rel => exact ⟨j + 1, by omega, by go_num, HA2.out, K.out.step (Below.drewN (Below.refl _ _) _)⟩
                case measure => simp [intOf]; omega
              · have HV := Lib.hid (fieldsB_false (nm := nm) (FieldsP.not_new HD.out (by rw [← show q.2.s = p.2.s from bytes_eq.1 (by simpa using hc)]; exact mem_take hjl HD2.out)))
                go_upto_region 10 with fail
                go_quiet (fail)
                clear q4 k0 n1 hj0 hj1
                go_wp2_with fail
                go_ret
                exact ⟨by rw [HV.out]; rfl, K.out.bel.drewN _⟩
            · have HX := Lib.hid (HP.out.next HD.out HNm.out (not_mem_take (fun m g hm hg => HAll.out m g (by omega) hg)) HSo.out)
              clear I
              go_wp2_with fail
              go_roundw
              case rel => exact ⟨i + 1, by omega, by go_num, HX.out, K.out.b0, K.out.bel⟩
              case measure => simp [intOf]; omega
    · have HV : Hid (fieldsB nm x.d = true) := by
        have := HP.out
        rw [List.take_of_length_le (by rw [← HS.out, List.length_map, ← HN.out]; omega)] at this
        exact fieldsB_true this
      clear hP hK hB
      go_wp2_with fail
      go_ret
      exact ⟨by rw [HV.out]; rfl, J.out⟩

end Go.Proofs.YtdmabhbhlnpkgaaDoor
