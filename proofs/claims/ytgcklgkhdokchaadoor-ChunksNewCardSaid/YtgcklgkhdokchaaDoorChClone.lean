/- The contract of slices.Clone at chunks, orders and texts. Printed by gen_chclone.py. -/
import Derived.Test.YtgcklgkhdokchaaDoorChRep
import Derived.Laws.OwnMore
namespace Go.Proofs.YtgcklgkhdokchaaDoor
open Go.RowKit

set_option maxHeartbeats 1000000 in
theorem cloneC_any (xs : List Ch) (A : Option Addr) (n c : Nat) (w : World) (h : SR 5 recC w A n c xs) (hn : n * 56 ≤ reach) :
    Calls Tryd.prog 47 #[.slice A n c] w fun e w' => ∃ v, e = .returned v ∧ w'.ownsRow w.heap.size 45 5 v n (flat recC xs) ∧ Below w.heap.size w w' := by
  obtain ⟨j0, hj0, hy0, hy1, hy2⟩ := info_parts info_chunk
  have HL := Lib.hid h.ln
  unfold reach at hn
  cases A with
  | none =>
    have h0 : n = 0 := by
      rcases Nat.eq_zero_or_pos n with h0 | h0
      · exact h0
      · obtain ⟨b, off, e, _⟩ := h.el h0; cases e
    subst h0
    have HX : Hid (xs = []) := List.eq_nil_of_length_eq_zero HL.out.symm
    clear h
    have kn := fun (w : World) => Lib.run_eql_slice_nil (P := Tryd.prog) w 28 45 none 0 c 0 0 Tryd.underlying28
    go_enter Tryd.func47, Tryd.ntmps47
    go_wp2_with fail
    go_ret
    exact ⟨_, rfl, by rw [HX.out]; exact own_nil _ _ _ _, Below.refl _ _⟩
  | some ad =>
    have HR := Lib.hid (h.reads recC_length (by omega))
    have hO : (w.alloc (Obj.cells #[] 45)).ownsRow w.heap.size 45 5 (.slice (some ⟨w.heap.size, 0, none⟩) 0 0) 0 [] :=
      ⟨rfl, .inr ⟨w.heap.size, 0, #[], rfl, Nat.le_refl _, Blk.new_at rfl, Nat.le_refl _, Nat.zero_le _, rfl, rfl⟩⟩
    have HO := Lib.hid hO
    have H1 := Lib.hid (flat_one recC_one xs)
    clear h hO
    have kn := fun (w : World) => Lib.run_eql_slice_nil (P := Tryd.prog) w 28 45 (some ad) n c 0 0 Tryd.underlying28
    go_enter Tryd.func47, Tryd.ntmps47
    go_wp2_with (at_builtin; refine wpList_append_any _ rfl _ _ 28 rfl w.heap.size 45 j0 (aggC Ch.zero) 5 56 Tryd.underlying28 hj0 hy0 hy1 hy2 rfl (by decide) (.slice (some ⟨w.heap.size, 0, none⟩) 0 0) 0 [] rfl HO.out w.heap.size (some ad) n c (flat recC xs) rfl (HR.out.alloc (Nat.le_refl _) _) H1.out (by unfold maxLen; omega) (by omega) (by simp) ?_)
    intro v' w2 hown hg _
    go_wp2_with fail
    go_ret
    refine ⟨v', rfl, by simpa using hown, ?_⟩
    exact ((Below.refl w.heap.size w).alloc (Nat.le_refl _) _).grown hg (by simp) (fun k hk => by simp [Value.ownBlock] at hk; omega)

set_option maxHeartbeats 1000000 in
theorem cloneO_any (xs : List OC) (A : Option Addr) (n c : Nat) (w : World) (h : SR 2 recO w A n c xs) (hn : n * 32 ≤ reach) :
    Calls Tryd.prog 46 #[.slice A n c] w fun e w' => ∃ v, e = .returned v ∧ w'.ownsRow w.heap.size 53 2 v n (flat recO xs) ∧ Below w.heap.size w w' := by
  obtain ⟨j0, hj0, hy0, hy1, hy2⟩ := info_parts info_order
  have HL := Lib.hid h.ln
  unfold reach at hn
  cases A with
  | none =>
    have h0 : n = 0 := by
      rcases Nat.eq_zero_or_pos n with h0 | h0
      · exact h0
      · obtain ⟨b, off, e, _⟩ := h.el h0; cases e
    subst h0
    have HX : Hid (xs = []) := List.eq_nil_of_length_eq_zero HL.out.symm
    clear h
    have kn := fun (w : World) => Lib.run_eql_slice_nil (P := Tryd.prog) w 22 53 none 0 c 0 0 Tryd.underlying22
    go_enter Tryd.func46, Tryd.ntmps46
    go_wp2_with fail
    go_ret
    exact ⟨_, rfl, by rw [HX.out]; exact own_nil _ _ _ _, Below.refl _ _⟩
  | some ad =>
    have HR := Lib.hid (h.reads recO_length (by omega))
    have hO : (w.alloc (Obj.cells #[] 53)).ownsRow w.heap.size 53 2 (.slice (some ⟨w.heap.size, 0, none⟩) 0 0) 0 [] :=
      ⟨rfl, .inr ⟨w.heap.size, 0, #[], rfl, Nat.le_refl _, Blk.new_at rfl, Nat.le_refl _, Nat.zero_le _, rfl, rfl⟩⟩
    have HO := Lib.hid hO
    have H1 := Lib.hid (flat_one recO_one xs)
    clear h hO
    have kn := fun (w : World) => Lib.run_eql_slice_nil (P := Tryd.prog) w 22 53 (some ad) n c 0 0 Tryd.underlying22
    go_enter Tryd.func46, Tryd.ntmps46
    go_wp2_with (at_builtin; refine wpList_append_any _ rfl _ _ 22 rfl w.heap.size 53 j0 (aggO OC.zero) 2 32 Tryd.underlying22 hj0 hy0 hy1 hy2 rfl (by decide) (.slice (some ⟨w.heap.size, 0, none⟩) 0 0) 0 [] rfl HO.out w.heap.size (some ad) n c (flat recO xs) rfl (HR.out.alloc (Nat.le_refl _) _) H1.out (by unfold maxLen; omega) (by omega) (by simp) ?_)
    intro v' w2 hown hg _
    go_wp2_with fail
    go_ret
    refine ⟨v', rfl, by simpa using hown, ?_⟩
    exact ((Below.refl w.heap.size w).alloc (Nat.le_refl _) _).grown hg (by simp) (fun k hk => by simp [Value.ownBlock] at hk; omega)

set_option maxHeartbeats 1000000 in
theorem cloneT_any (xs : List ByteArray) (A : Option Addr) (n c : Nat) (w : World) (h : SR 1 recT w A n c xs) (hn : n * 16 ≤ reach) :
    Calls Tryd.prog 27 #[.slice A n c] w fun e w' => ∃ v, e = .returned v ∧ w'.ownsRow w.heap.size 9 1 v n (flat recT xs) ∧ Below w.heap.size w w' := by
  obtain ⟨j0, hj0, hy0, hy1, hy2⟩ := info_parts info_string
  have HL := Lib.hid h.ln
  unfold reach at hn
  cases A with
  | none =>
    have h0 : n = 0 := by
      rcases Nat.eq_zero_or_pos n with h0 | h0
      · exact h0
      · obtain ⟨b, off, e, _⟩ := h.el h0; cases e
    subst h0
    have HX : Hid (xs = []) := List.eq_nil_of_length_eq_zero HL.out.symm
    clear h
    have kn := fun (w : World) => Lib.run_eql_slice_nil (P := Tryd.prog) w 36 9 none 0 c 0 0 Tryd.underlying36
    go_enter Tryd.func27, Tryd.ntmps27
    go_wp2_with fail
    go_ret
    exact ⟨_, rfl, by rw [HX.out]; exact own_nil _ _ _ _, Below.refl _ _⟩
  | some ad =>
    have HR := Lib.hid (h.reads recT_length (by omega))
    have hO : (w.alloc (Obj.cells #[] 9)).ownsRow w.heap.size 9 1 (.slice (some ⟨w.heap.size, 0, none⟩) 0 0) 0 [] :=
      ⟨rfl, .inr ⟨w.heap.size, 0, #[], rfl, Nat.le_refl _, Blk.new_at rfl, Nat.le_refl _, Nat.zero_le _, rfl, rfl⟩⟩
    have HO := Lib.hid hO
    have H1 := Lib.hid (flat_one recT_one xs)
    clear h hO
    have kn := fun (w : World) => Lib.run_eql_slice_nil (P := Tryd.prog) w 36 9 (some ad) n c 0 0 Tryd.underlying36
    go_enter Tryd.func27, Tryd.ntmps27
    go_wp2_with (at_builtin; refine wpList_append_any _ rfl _ _ 36 rfl w.heap.size 9 j0 (.string ByteArray.empty) 1 16 Tryd.underlying36 hj0 hy0 hy1 hy2 rfl (by decide) (.slice (some ⟨w.heap.size, 0, none⟩) 0 0) 0 [] rfl HO.out w.heap.size (some ad) n c (flat recT xs) rfl (HR.out.alloc (Nat.le_refl _) _) H1.out (by unfold maxLen; omega) (by omega) (by simp) ?_)
    intro v' w2 hown hg _
    go_wp2_with fail
    go_ret
    refine ⟨v', rfl, by simpa using hown, ?_⟩
    exact ((Below.refl w.heap.size w).alloc (Nat.le_refl _) _).grown hg (by simp) (fun k hk => by simp [Value.ownBlock] at hk; omega)

end Go.Proofs.YtgcklgkhdokchaaDoor
