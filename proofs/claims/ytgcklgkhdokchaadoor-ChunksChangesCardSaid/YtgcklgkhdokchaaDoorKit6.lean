/- Parts of rows; stores of many cells into a block. -/
import Derived.Test.YtgcklgkhdokchaaDoorKit7
import Derived.Laws.IdiomCopy
import Derived.Lib.SliceRun
namespace Go.Proofs.YtgcklgkhdokchaaDoor
open Go.RowKit

theorem flat_take {α : Type} {rec : α → List Value} {s : Nat} (hs : ∀ a, (rec a).length = s) : ∀ (xs : List α) (k : Nat), (flat rec xs).take (k * s) = flat rec (xs.take k) := by
  intro xs
  induction xs with
  | nil => intro k; simp [flat]
  | cons a l ih =>
    intro k
    cases k with
    | zero => simp [flat]
    | succ k =>
      have e : ∀ (y : α) (t : List α), flat rec (y :: t) = rec y ++ flat rec t := fun _ _ => rfl
      rw [List.take_succ_cons, e, e, ← ih k, show (k + 1) * s = (rec a).length + k * s by rw [hs, Nat.add_mul]; omega, List.take_length_add_append]
theorem flat_drop {α : Type} {rec : α → List Value} {s : Nat} (hs : ∀ a, (rec a).length = s) : ∀ (xs : List α) (k : Nat), (flat rec xs).drop (k * s) = flat rec (xs.drop k) := by
  intro xs
  induction xs with
  | nil => intro k; simp [flat]
  | cons a l ih =>
    intro k
    cases k with
    | zero => simp [flat]
    | succ k =>
      have e : ∀ (y : α) (t : List α), flat rec (y :: t) = rec y ++ flat rec t := fun _ _ => rfl
      rw [List.drop_succ_cons, e, ← ih k, show (k + 1) * s = (rec a).length + k * s by rw [hs, Nat.add_mul]; omega, List.drop_length_add_append]
theorem Reads.take {w : World} {B size n : Nat} {A : Option Addr} {xs : List Value} (h : Reads w B size A n xs) {k : Nat} (hk : k ≤ n) : Reads w B size A k (xs.take (k * size)) := by
  refine ⟨by rw [List.length_take, h.1]; exact Nat.min_eq_left (Nat.mul_le_mul_right _ hk), fun hn => ?_⟩
  obtain ⟨ad, rfl, hb, hc⟩ := h.2 (by omega)
  refine ⟨ad, rfl, hb, fun j u hu => hc j u ?_⟩
  rw [List.getElem?_take] at hu
  split at hu
  · exact hu
  · cases hu
theorem Blk.setCells {g : Nat} {t : TypeId} : ∀ (vs : List Value) {l : List Value} (o : Nat) {w : World}, Blk w g t l.toArray → Blk (w.setCells g o vs) g t (setList l o vs).toArray
  | [], _, _, _, h => h
  | v :: r, l, o, w, h => by
    have h1 := h.set_ o v
    rw [show l.toArray.setIfInBounds o v = (l.set o v).toArray by simp] at h1
    exact Blk.setCells r (o + 1) h1
theorem heap_setCells (g : Nat) : ∀ (vs : List Value) (o : Nat) (w : World) (b : Nat), b ≠ g → (w.setCells g o vs).heap[b]? = w.heap[b]?
  | [], _, _, _, _ => rfl
  | v :: r, o, w, b, h => by
    rw [World.setCells, heap_setCells g r (o + 1) _ b h]
    exact Below.heap_setCell w ⟨g, o, none⟩ v b h
theorem But.setCells {g : Nat} {w : World} : ∀ (vs : List Value) (o : Nat) {w1 : World}, But g w w1 → But g w (w1.setCells g o vs)
  | [], _, _, h => h
  | v :: r, o, _, h => But.setCells r (o + 1) (h.set (p := ⟨g, o, none⟩) rfl v)
/-- clear of a slice of one element -/
theorem run_clear_one {P : Program} (w : World) (t e ty : TypeId) (z : Value) (zs : List Value) (ht : P.underlying t = some (.slice e)) (hv : ∀ w, (zeroValue e).run P w = .ok z w) (hz : z.cells = zs.toArray) (h1 : ∀ v ∈ zs, v.oneCell' = true) (b o c : Nat)
    (hc : ∀ j, j < zs.length → (w.cell? ⟨b, o + j, none⟩).isSome = true) (hf : ∀ j, j < zs.length → w.frozen? ⟨b, o + j, none⟩ = false) :
    (Builtin.clear_ #[t] ty #[.slice (some ⟨b, o, none⟩) 1 c]).run P w = .ok (.tuple #[]) (w.setCells b o zs) := by
  have hzc : (Builtin.zeroCells z.cells 1).toList = zs := by
    rw [hz]
    apply List.ext_getElem
    · simp [Builtin.zeroCells]
    · intro i h1 h2
      simp [Builtin.zeroCells, Nat.mod_eq_of_lt h2, h2]
  have hst := run_storeCells_cells (P := P) b o zs 0 w (by simpa using hc) (by simpa using hf) h1
  simp only [Nat.add_zero] at hst
  simp [Builtin.clear_, run_underlying ht, hv, hzc, hst]

end Go.Proofs.YtgcklgkhdokchaaDoor
