/- The contract of chunks.Middle. -/
import Derived.Test.YtgcklgkhdokchaaDoorChBaseB
import Derived.Test.YtgcklgkhdokchaaDoorChShelf
namespace Go.Proofs.YtgcklgkhdokchaaDoor
open Go.RowKit Go.Sort

abbrev bytesOf (xs : List ByteArray) : List (List UInt8) := xs.map (·.data.toList)
/-- the keys ascending, each once -/
def distL (xs : List ByteArray) : List (List UInt8) := Lib.compact ((bytesOf xs).mergeSort fun x y => decide (x ≤ y))
/-- the one in the middle -/
def midOf (ts : List (List UInt8)) : ByteArray := if ts.length < 2 then ⟨#[]⟩ else ⟨(ts.getD (ts.length / 2) []).toArray⟩
theorem flat_recT (xs : List ByteArray) : flat recT xs = (bytesOf xs).map encStr := by
  induction xs with
  | nil => rfl
  | cons a r ih =>
    have e : flat recT (a :: r) = recT a ++ flat recT r := rfl
    rw [e, ih]
    rfl

theorem half_facts (m k : Nat) (h : k = m / 2) (hm : m ≤ 140737488355328) (h2 : 2 ≤ m) : ((m : Int).tdiv 2) = (k : Int) ∧ wrap64 (k : Int) = (k : Int) ∧ (0 : Int) ≤ (k : Int) ∧ (k : Int) < (m : Int) := by
  refine ⟨by rw [Int.tdiv_eq_ediv_of_nonneg (by omega)]; omega, ?_, by omega, by omega⟩
  unfold wrap64
  omega

set_option maxRecDepth 100000 in
set_option maxHeartbeats 300000 in
theorem middle_any (xs : List ByteArray) (A : Option Addr) (n c : Nat) (w : World) (h : ST w A n c xs) :
    Calls Tryd.prog 12 #[.slice A n c] w fun e w' => e = .returned (.string (midOf (distL xs))) ∧ Below w.heap.size w w' := by
  have H := Lib.hid h
  have hn : Hid (n = xs.length) := h.sr.ln
  have hz : n * 16 ≤ reach := h.sz
  have hz2 : n ≤ 140737488355328 := by unfold reach at hz; omega
  have HZ := Lib.hid hz
  clear h hz
  go_enter Tryd.func12, Tryd.ntmps12
  go_wp2_with fail
  refine (cloneT_any xs A n c w H.out.sr HZ.out).mono ?_
  rintro e w1 ⟨v, rfl, hown, hb1⟩
  by_cases hv0 : v = .slice none 0 0
  · subst hv0
    have hx : xs = [] := by
      rcases hown.2 with ⟨_, h2⟩ | ⟨g, cap, cur, hv, _⟩
      · exact List.eq_nil_of_length_eq_zero (by rw [← hn.out]; exact h2)
      · cases hv
    have hn0 : n = 0 := by rw [hn.out, hx]; rfl
    have HF : Hid (midOf (distL xs) = ⟨#[]⟩) := by
      rw [Hid, hx]
      show midOf (Lib.compact (List.mergeSort [] _)) = _
      rw [List.mergeSort_nil]
      rfl
    clear hown
    go_wp2_with fail
    refine (Tryd.slices_Sort_string_none none 0 w1).mono ?_
    rintro e w2 ⟨rfl, rfl⟩
    go_wp2_with fail
    refine (Tryd.slices_Compact_string_empty none 0 w2).mono ?_
    rintro e w3 ⟨rfl, rfl⟩
    go_wp2_with fail
    go_ret
    exact ⟨by rw [HF.out]; rfl, hb1⟩
  · rw [flat_recT] at hown
    obtain ⟨g, cap, rfl, hbg, hgl, hncap, hcm, hlen, hH⟩ := Lib.holds_of_ownsRow hown hv0
    have hlen2 : (bytesOf xs).length = n := hlen
    obtain ⟨ss, hss⟩ : ∃ ss, ss = bytesOf xs := ⟨_, rfl⟩
    have HD : Hid (distL xs = Lib.compact (ss.mergeSort fun x y => decide (x ≤ y))) := by rw [hss]; rfl
    rw [← hss] at hown hlen2 hH
    clear hss hlen
    have HSO := Lib.hid (Tryd.slices_Sort_string g 0 cap ss w1 hH hgl (by omega))
    rw [hlen2] at HSO
    clear hv0
    go_wp2_with fail
    refine HSO.out.mono ?_
    rintro e w2 ⟨rfl, q, os, rfl⟩
    have hl2 : (ss.mergeSort fun x y => decide (x ≤ y)).length = ss.length := List.length_mergeSort ss
    have hs2 : (grow (putRow encStr (Sort.ahead w1 q) g 0 (ss.mergeSort fun x y => decide (x ≤ y)).toArray) os).ownsRow w.heap.size 9 1 (.slice (some ⟨g, 0, none⟩) n cap) n ((ss.mergeSort fun x y => decide (x ≤ y)).map encStr) := by
      rcases hown.2 with ⟨h0, _⟩ | ⟨g', cap', cur, hv, hbase, hb, h1, h2, h3, h4⟩
      · cases h0
      cases hv
      have := ownsRow_sorted (n := q) (os := os) (ts := ss.mergeSort fun x y => decide (x ≤ y)) hl2 hbase hb (by omega) h2 h3
      rw [hlen2] at this
      exact this
    have hbe2 : Below w.heap.size w (grow (putRow encStr (Sort.ahead w1 q) g 0 (ss.mergeSort fun x y => decide (x ≤ y)).toArray) os) := hb1.grown (grownBy_sorted _) hb1.size (fun j hj => by cases hj; exact hbg)
    generalize hts : (ss.mergeSort fun x y => decide (x ≤ y)) = ts at *
    obtain ⟨w2, hw2⟩ : ∃ w2, w2 = grow (putRow encStr (Sort.ahead w1 q) g 0 ts.toArray) os := ⟨_, rfl⟩
    rw [← hw2] at hs2 hbe2 ⊢
    clear hw2 hts hown hH HSO
    obtain ⟨g2, cap2, hv2, _, hgl2, _, _, hlen3, hH2⟩ := Lib.holds_of_ownsRow hs2 (by simp)
    injection hv2 with e1 e2 e3
    injection e1 with e1
    injection e1 with e1
    subst e1 e3
    have HCO := Lib.hid (Tryd.slices_Compact_string g 0 cap ts w2 hH2 (by omega) (by omega))
    rw [hlen3] at HCO
    go_wp2_with fail
    refine HCO.out.mono ?_
    rintro e w3 ⟨rfl, q2, rfl⟩
    have hle := Lib.compact_length_le ts
    have hc3 := Lib.ownsRow_putRow (q := q2) (k := (Lib.compact ts).length) (ys := Lib.compact ts ++ List.replicate (n - (Lib.compact ts).length) []) hs2 (by simp; omega) (by omega)
    rw [List.take_left] at hc3
    have hbe3 : Below w.heap.size w (putRow encStr (Sort.ahead w2 q2) g 0 (Lib.compact ts ++ List.replicate (n - (Lib.compact ts).length) []).toArray) := Lib.below_putRow hbe2 hbg
    have HMD : Hid (midOf (distL xs) = midOf (Lib.compact ts)) := by rw [Hid, HD.out]
    clear HD hs2 hbe2 hH2 HCO
    generalize putRow encStr (Sort.ahead w2 q2) g 0 (Lib.compact ts ++ List.replicate (n - (Lib.compact ts).length) []).toArray = w3 at *
    obtain ⟨u, hu⟩ : ∃ u, u = Lib.compact ts := ⟨_, rfl⟩
    rw [← hu] at hc3 HMD hle ⊢
    clear hu
    have hul : u.length ≤ 140737488355328 := by omega
    have hbe := Lib.hid hbe3
    by_cases h2 : u.length < 2
    · have HF : Hid (midOf (distL xs) = ⟨#[]⟩) := by rw [Hid, HMD.out]; unfold midOf; rw [if_pos h2]
      clear hbe3 hc3
      go_wp2_with fail
      go_ret
      exact ⟨by rw [HF.out]; rfl, hbe.out⟩
    · have HF : Hid (midOf (distL xs) = ⟨(u.getD (u.length / 2) []).toArray⟩) := by rw [Hid, HMD.out]; unfold midOf; rw [if_neg h2]
      have hk : u.length / 2 < u.length := by omega
      have hcell : w3.cell? ⟨g, u.length / 2, none⟩ = some (.string ⟨(u.getD (u.length / 2) []).toArray⟩) := by
        refine (own_cell hc3 (k := u.length / 2) ?_).1
        rw [List.getElem?_map, List.getElem?_eq_getElem hk, List.getD_eq_getElem?_getD, List.getElem?_eq_getElem hk]
        rfl
      obtain ⟨z, hz⟩ : ∃ z : ByteArray, z = ⟨(u.getD (u.length / 2) []).toArray⟩ := ⟨_, rfl⟩
      rw [← hz] at hcell HF
      obtain ⟨k, hkk⟩ : ∃ k, k = u.length / 2 := ⟨_, rfl⟩
      rw [← hkk] at hcell hk
      generalize u.length = m at *
      obtain ⟨d1, d2, d3, d4⟩ := half_facts m k hkk hul (Nat.le_of_not_lt h2)
      have d5 : m / 2 = k := hkk.symm
      have d6 : (m : Int) / 2 = (k : Int) := by omega
      have HH := Lib.hid hbe
      have HCE := Lib.hid hcell
      have HUL := Lib.hid hul
      clear hbe3 hc3 hz hkk hbe hul hle hgl hbg hncap hcm hn hlen2 hlen3 hgl2 hb1 hz2
      go_wp2_with fail
      go_ret
      exact ⟨by rw [HF.out]; rfl, HH.out.out⟩

end Go.Proofs.YtgcklgkhdokchaaDoor
