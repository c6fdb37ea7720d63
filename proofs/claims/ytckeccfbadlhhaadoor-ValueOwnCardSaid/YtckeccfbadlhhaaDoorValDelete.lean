/- The contract of slices.Delete at the fields of a document: one field is taken out in place. -/
import Derived.Test.YtckeccfbadlhhaaDoorKit6
import Derived.Test.YtckeccfbadlhhaaDoorValSet2
namespace Go.Proofs.YtckeccfbadlhhaaDoor
open Go.RowKit

def zeroF : PF := (VC.zero, .mk ByteArray.empty Val.zero)
theorem erase_list (fs : List PF) (i : Nat) (hi : i < fs.length) : setList (setList (flat recF fs) (i * 6) (flat recF (fs.drop (i + 1)))) ((fs.length - 1) * 6) (recF zeroF) = flat recF (fs.eraseIdx i) ++ recF zeroF := by
  have hl := flat_length recF_length fs
  have hd := flat_length recF_length (fs.drop (i + 1))
  rw [List.length_drop] at hd
  have e1 : setList (flat recF fs) (i * 6) (flat recF (fs.drop (i + 1))) = flat recF (fs.eraseIdx i) ++ flat recF (fs.drop (fs.length - 1)) := by
    rw [setList_eq _ _ _ (by omega), flat_take recF_length, hd, show i * 6 + (fs.length - (i + 1)) * 6 = (fs.length - 1) * 6 by omega, flat_drop recF_length, ← flat_append, List.eraseIdx_eq_take_drop_succ]
  have hel : (flat recF (fs.eraseIdx i)).length = (fs.length - 1) * 6 := by rw [flat_length recF_length, List.length_eraseIdx_of_lt hi]
  have hd2 := flat_length recF_length (fs.drop (fs.length - 1))
  rw [List.length_drop] at hd2
  have h6 : (recF zeroF).length = 6 := rfl
  rw [e1, setList_eq _ _ _ (by rw [List.length_append, hel, hd2, h6]; omega), ← hel, List.take_left, h6, List.drop_of_length_le (by rw [List.length_append, hel, hd2]; omega), List.append_nil]

theorem zero_field : ∀ w, (zeroValue 42).run Tryd.prog w = .ok (.agg (recF zeroF).toArray) w := fun _ => rfl

/-- what Delete leaves -/
def DelOk (fs : List PF) (g i : Nat) (w : World) (e : Ending) (w' : World) : Prop :=
  e = .returned (.slice (some ⟨g, 0, none⟩) (fs.length - 1) fs.length) ∧ Blk w' g 42 (flat recF (fs.eraseIdx i) ++ recF zeroF).toArray ∧ But g w w'

set_option maxRecDepth 100000 in
set_option maxHeartbeats 2000000 in
theorem delete_any (fs : List PF) (g n i : Nat) (jI : Int) (w : World) (h : Blk w g 42 (flat recF fs).toArray) (hn : n = fs.length) (hi : i < n) (hz : n * 96 ≤ reach) (hj : jI = (i : Int) + 1) :
    Calls Tryd.prog 50 #[.slice (some ⟨g, 0, none⟩) n n, .int .i64 i, .int .i64 jI] w (DelOk fs g i w) := by
  obtain ⟨j0, hj0, hy0, hy1, hy2⟩ := info_parts info_field
  unfold reach at hz
  have hcell : ∀ k, k < n * 6 → (w.cell? ⟨g, k, none⟩).isSome = true := by
    intro k hk
    rw [h.cell, Array.getElem?_eq_getElem (by rw [List.size_toArray, flat_length recF_length]; omega)]
    rfl
  have hdl : (flat recF (fs.drop (i + 1))).length = (n - (i + 1)) * 6 := by rw [flat_length recF_length, List.length_drop, hn]
  obtain ⟨A, hA, hnews⟩ : ∃ A : Addr, (if n = i + 1 then some (⟨g, 0, none⟩ : Addr) else some ⟨g, (i + 1) * 6, none⟩) = some A ∧ Hid (∀ k u, (flat recF (fs.drop (i + 1)))[k]? = some u → w.drew.cell? (A.add k) = some u) := by
    by_cases hq : n = i + 1
    · refine ⟨⟨g, 0, none⟩, by simp [hq], fun k u hu => ?_⟩
      have := (List.getElem?_eq_some_iff.1 hu).1
      omega
    · refine ⟨⟨g, (i + 1) * 6, none⟩, by simp [hq], fun k u hu => ?_⟩
      rw [addr_add]
      show w.cell? _ = _
      rw [h.cell, List.getElem?_toArray]
      rw [← flat_drop recF_length, List.getElem?_drop] at hu
      exact hu
  have s1 : Hid ((flat recF (fs.drop (i + 1))).length = (n - (i + 1)) * 6) := hdl
  have s2 : Hid (∀ u ∈ flat recF (fs.drop (i + 1)), u.oneCell' = true) := by
    intro u hu
    obtain ⟨p, _, hp⟩ := List.mem_flatMap.1 hu
    exact recF_one p u hp
  have s3 : Hid (∀ k, k < (flat recF (fs.drop (i + 1))).length → (w.drew.cell? ⟨g, 0 + i * 6 + k, none⟩).isSome = true ∧ w.drew.frozen? ⟨g, 0 + i * 6 + k, none⟩ = false) := by
    intro k hk
    exact ⟨hcell _ (by omega), h.frozen _⟩
  obtain ⟨W1, hW1⟩ : ∃ W1, W1 = w.drew.setCells g (0 + i * 6) (flat recF (fs.drop (i + 1))) := ⟨_, rfl⟩
  have hB1 : Blk W1 g 42 (setList (flat recF fs) (i * 6) (flat recF (fs.drop (i + 1)))).toArray := by
    rw [hW1, Nat.zero_add]
    exact Blk.setCells _ _ (w := w.drew) h.drew
  have hBut : But g w W1 := by
    rw [hW1]
    exact But.setCells _ _ (But.of_below ((Below.refl w.heap.size w).drew))
  have hsz : (setList (flat recF fs) (i * 6) (flat recF (fs.drop (i + 1)))).length = n * 6 := by
    have hl := flat_length recF_length fs
    rw [setList_eq _ _ _ (by omega)]
    simp
    omega
  have hcl : ∀ ty, (Builtin.clear_ #[23] ty #[.slice (some ⟨g, (n - 1) * 6, none⟩) 1 1]).run Tryd.prog W1 = .ok (.tuple #[]) (W1.setCells g ((n - 1) * 6) (recF zeroF)) := fun ty =>
    run_clear_one W1 _ _ ty _ _ Tryd.underlying23 zero_field rfl (recF_one _) g _ _ (fun k hk => by
      have hk6 : k < 6 := hk
      rw [hB1.cell, Array.getElem?_eq_getElem (by rw [List.size_toArray, hsz]; omega)]
      rfl) (fun k _ => hB1.frozen _)
  have HE : Hid (DelOk fs g i w (.returned (.slice (some ⟨g, 0, none⟩) (n - 1) n)) (W1.setCells g ((n - 1) * 6) (recF zeroF))) := by
    refine ⟨by rw [hn], ?_, hBut.setCells _ _⟩
    have := Blk.setCells (recF zeroF) ((n - 1) * 6) (w := W1) hB1
    rw [hn, erase_list fs i (by omega)] at this
    rw [hn]
    exact this
  have hW := Lib.hid hW1
  have hn0 : (n = 0) = False := by simp; omega
  have hni : (n = i) = False := by simp; omega
  have hi0 : (0 : Int) ≤ (i : Int) := by omega
  have hp0 : (0 : Int) ≤ (i : Int) + 1 := by omega
  have hp1 : (i : Int) + 1 ≤ (n : Int) := by omega
  have hp2 : ((i : Int) + 1).toNat = i + 1 := by omega
  have hic : i ≤ n := by omega
  have hij : ((i : Int) == (i : Int) + 1) = false := by simp; omega
  subst hj
  clear h hn hcell hdl hB1 hBut hsz hW1
  go_enter Tryd.func50, Tryd.ntmps50
  go_upto_region 5 with fail
  go_region_law (refine step_append_room rfl (.tmp 22) (.tmp 25) 23 rfl 42 j0 6 Tryd.underlying23 hj0 hy1 g 0 i n (by simp [Act.eval, Act.put]) A (n - (i + 1)) (n - (i + 1)) (flat recF (fs.drop (i + 1))) (by simp [Act.eval, Act.put]) s1.out hnews.out s2.out (by omega) s3.out ?_; rw [← hW.out])
  obtain ⟨m, hm⟩ : ∃ m, n = m + 1 := ⟨n - 1, by omega⟩
  rw [show i + (n - (i + 1)) = m by omega]
  rw [show n - 1 = m by omega] at hcl HE
  have f1 : (m : Int) ≤ (n : Int) := by omega
  have f2 : (0 : Int) ≤ (m : Int) := by omega
  have f3 : (n = m) = False := by simp; omega
  have f4 : n - m = 1 := by omega
  clear hm hA hni hn0 hp0 hp1 hp2 hij
  go_wp2_with fail
  go_ret
  exact HE.out

end Go.Proofs.YtckeccfbadlhhaaDoor
