/- The contract of slices.Delete at chunks: one chunk is taken out in place. -/
import Derived.Test.YtgcklgkhdokchaaDoorChInsert
namespace Go.Proofs.YtgcklgkhdokchaaDoor
open Go.RowKit

theorem eraseC_list (cs : List Ch) (R : List Value) (i : Nat) (hi : i < cs.length) : setList (setList (flat recC cs ++ R) (i * 5) (flat recC (cs.drop (i + 1)))) ((cs.length - 1) * 5) (recC Ch.zero) = flat recC (cs.eraseIdx i) ++ (recC Ch.zero ++ R) := by
  have hl := flat_length recC_length cs
  have hd := flat_length recC_length (cs.drop (i + 1))
  rw [List.length_drop] at hd
  have e1 : setList (flat recC cs ++ R) (i * 5) (flat recC (cs.drop (i + 1))) = flat recC (cs.eraseIdx i) ++ (flat recC (cs.drop (cs.length - 1)) ++ R) := by
    rw [setList_eq _ _ _ (by rw [List.length_append]; omega), List.take_append_of_le_length (by omega), flat_take recC_length, hd, show i * 5 + (cs.length - (i + 1)) * 5 = (cs.length - 1) * 5 by omega, List.drop_append_of_le_length (by omega), flat_drop recC_length, List.eraseIdx_eq_take_drop_succ, flat_append]
  have hel : (flat recC (cs.eraseIdx i)).length = (cs.length - 1) * 5 := by rw [flat_length recC_length, List.length_eraseIdx_of_lt hi]
  have hd2 := flat_length recC_length (cs.drop (cs.length - 1))
  rw [List.length_drop] at hd2
  have h5 : (recC Ch.zero).length = 5 := rfl
  have hd3 : (flat recC (cs.drop (cs.length - 1))).length = 5 := by omega
  rw [e1, setList_eq _ _ _ (by rw [List.length_append, List.length_append, hel, hd3, h5]; omega), ← hel, List.take_left, h5, List.append_assoc]
  congr 2
  rw [← List.append_assoc, show (flat recC (cs.eraseIdx i)).length + 5 = (flat recC (cs.eraseIdx i) ++ flat recC (cs.drop (cs.length - 1))).length by rw [List.length_append, hd3], List.drop_left]

set_option maxRecDepth 100000 in
theorem zero_chunk : ∀ w, (zeroValue 45).run Tryd.prog w = .ok (.agg (recC Ch.zero).toArray) w := fun _ => rfl

/-- what Delete leaves -/
def DelC (lo g n c : Nat) (cs : List Ch) (w : World) (e : Ending) (w' : World) : Prop :=
  e = .returned (.slice (some ⟨g, 0, none⟩) (n - 1) c) ∧ w'.ownsRow lo 45 5 (.slice (some ⟨g, 0, none⟩) (n - 1) c) (n - 1) (flat recC cs) ∧ But g w w'

set_option maxRecDepth 100000 in
set_option maxHeartbeats 800000 in
theorem deleteC_any (cs : List Ch) (lo g n c i : Nat) (w : World) (h : w.ownsRow lo 45 5 (.slice (some ⟨g, 0, none⟩) n c) n (flat recC cs)) (hi : i < n) :
    Calls Tryd.prog 35 #[.slice (some ⟨g, 0, none⟩) n c, .int .i64 i, .int .i64 ((i : Int) + 1)] w (DelC lo g n c (cs.eraseIdx i) w) := by
  obtain ⟨j0, hj0, hy0, hy1, hy2⟩ := info_parts info_chunk
  obtain ⟨R, hB, hlen, hnc, hcm, hge⟩ := own_blk h
  have hn : n = cs.length := by have := h.1; have := flat_length recC_length cs; omega
  unfold maxLen at hcm
  have hfl := flat_length recC_length cs
  have hcell : ∀ k, k < c * 5 → (w.cell? ⟨g, k, none⟩).isSome = true := by
    intro k hk
    rw [hB.cell, Array.getElem?_eq_getElem (by rw [List.size_toArray, hlen]; exact hk)]
    rfl
  have hdl : (flat recC (cs.drop (i + 1))).length = (n - (i + 1)) * 5 := by rw [flat_length recC_length, List.length_drop, hn]
  obtain ⟨A, hA, hnews⟩ : ∃ A : Addr, (if c = i + 1 then some (⟨g, 0, none⟩ : Addr) else some ⟨g, (i + 1) * 5, none⟩) = some A ∧ Hid (∀ k u, (flat recC (cs.drop (i + 1)))[k]? = some u → w.drew.cell? (A.add k) = some u) := by
    by_cases hq : c = i + 1
    · refine ⟨⟨g, 0, none⟩, by simp [hq], fun k u hu => ?_⟩
      have := (List.getElem?_eq_some_iff.1 hu).1
      omega
    · refine ⟨⟨g, (i + 1) * 5, none⟩, by simp [hq], fun k u hu => ?_⟩
      rw [addr_add]
      show w.cell? _ = _
      rw [hB.cell, List.getElem?_toArray]
      rw [← flat_drop recC_length, List.getElem?_drop] at hu
      rw [List.getElem?_append_left (List.getElem?_eq_some_iff.1 hu).1]
      exact hu
  have s1 : Hid ((flat recC (cs.drop (i + 1))).length = (n - (i + 1)) * 5) := hdl
  have s2 : Hid (∀ u ∈ flat recC (cs.drop (i + 1)), u.oneCell' = true) := flat_one recC_one _
  have s3 : Hid (∀ k, k < (flat recC (cs.drop (i + 1))).length → (w.drew.cell? ⟨g, 0 + i * 5 + k, none⟩).isSome = true ∧ w.drew.frozen? ⟨g, 0 + i * 5 + k, none⟩ = false) := by
    intro k hk
    exact ⟨hcell _ (by omega), hB.frozen _⟩
  obtain ⟨W1, hW1⟩ : ∃ W1, W1 = w.drew.setCells g (0 + i * 5) (flat recC (cs.drop (i + 1))) := ⟨_, rfl⟩
  have hB1 : Blk W1 g 45 (setList (flat recC cs ++ R) (i * 5) (flat recC (cs.drop (i + 1)))).toArray := by
    rw [hW1, Nat.zero_add]
    exact Blk.setCells _ _ (w := w.drew) hB.drew
  have hBut : But g w W1 := by
    rw [hW1]
    exact But.setCells _ _ (But.of_below ((Below.refl w.heap.size w).drew))
  have hsz : (setList (flat recC cs ++ R) (i * 5) (flat recC (cs.drop (i + 1)))).length = c * 5 := by
    rw [setList_eq _ _ _ (by omega)]
    simp only [List.length_append, List.length_take, List.length_drop] at hlen ⊢
    rw [hdl]
    omega
  have hcl : ∀ ty, (Builtin.clear_ #[28] ty #[.slice (some ⟨g, (n - 1) * 5, none⟩) 1 (c - (n - 1))]).run Tryd.prog W1 = .ok (.tuple #[]) (W1.setCells g ((n - 1) * 5) (recC Ch.zero)) := fun ty =>
    run_clear_one W1 _ _ ty _ _ Tryd.underlying28 zero_chunk rfl (recC_one _) g _ _ (fun k hk => by
      have hk5 : k < 5 := hk
      rw [hB1.cell, Array.getElem?_eq_getElem (by rw [List.size_toArray, hsz]; omega)]
      rfl) (fun k _ => hB1.frozen _)
  have HE : Hid (DelC lo g n c (cs.eraseIdx i) w (.returned (.slice (some ⟨g, 0, none⟩) (n - 1) c)) (W1.setCells g ((n - 1) * 5) (recC Ch.zero))) := by
    have := Blk.setCells (recC Ch.zero) ((n - 1) * 5) (w := W1) hB1
    rw [hn, eraseC_list cs R i (by omega)] at this
    have hel : (flat recC (cs.eraseIdx i)).length = (n - 1) * 5 := by rw [flat_length recC_length, List.length_eraseIdx_of_lt (by omega), hn]
    refine ⟨rfl, ?_, hBut.setCells _ _⟩
    rw [← hn] at this
    refine blk_own this hel ?_ (by omega) (by unfold maxLen; omega) hge
    rw [List.length_append] at hlen
    rw [List.length_append, List.length_append, hel, show (recC Ch.zero).length = 5 from rfl]
    omega
  have hW := Lib.hid hW1
  have hn0 : (n = 0) = False := by simp; omega
  have hni : (n = i) = False := by simp; omega
  have hi0 : (0 : Int) ≤ (i : Int) := by omega
  have hp0 : (0 : Int) ≤ (i : Int) + 1 := by omega
  have hp1 : (i : Int) + 1 ≤ (n : Int) := by omega
  have hp2 : ((i : Int) + 1).toNat = i + 1 := by omega
  have hic : i ≤ c := by omega
  have hicI : (i : Int) ≤ (c : Int) := by omega
  have hij : ((i : Int) == (i : Int) + 1) = false := by simp; omega
  have hnC := Lib.hid hn
  clear h hn hcell hdl hB1 hBut hsz hW1 hB hlen hfl hcm hge
  go_enter Tryd.func35, Tryd.ntmps35
  go_upto_region 5 with fail
  go_region_law (refine step_append_room rfl (.tmp 22) (.tmp 25) 28 rfl 45 j0 5 Tryd.underlying28 hj0 hy1 g 0 i c (by simp [Act.eval, Act.put]) A (n - (i + 1)) (c - (i + 1)) (flat recC (cs.drop (i + 1))) (by simp [Act.eval, Act.put]) s1.out hnews.out s2.out (by omega) s3.out ?_; rw [← hW.out])
  obtain ⟨m, hm⟩ : ∃ m, n = m + 1 := ⟨n - 1, by omega⟩
  rw [show i + (n - (i + 1)) = m by omega]
  rw [show n - 1 = m by omega] at hcl HE
  have f1 : (m : Int) ≤ (n : Int) := by omega
  have f2 : (0 : Int) ≤ (m : Int) := by omega
  have f3 : (c = m) = False := by simp; omega
  have f4 : n - m = 1 := by omega
  have f5 : (n : Int) ≤ (c : Int) := by omega
  clear hm hA hni hn0 hp0 hp1 hp2 hij
  go_wp2_with fail
  go_ret
  exact HE.out

end Go.Proofs.YtgcklgkhdokchaaDoor
