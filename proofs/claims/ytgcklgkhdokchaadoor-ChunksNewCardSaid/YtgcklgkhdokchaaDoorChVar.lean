/- Routes in a variable, whose chunks lie in a row of the call's own. -/
import Derived.Test.YtgcklgkhdokchaaDoorChChanged
import Derived.Test.YtgcklgkhdokchaaDoorChFind
import Derived.Test.YtgcklgkhdokchaaDoorChDelete
namespace Go.Proofs.YtgcklgkhdokchaaDoor
open Go.RowKit

theorem KS.toB {w w' : World} {A : Option Addr} {n c : Nat} {ks : List Od} (h : KS w A n c ks) (hb : Below w.heap.size w w') : KSF (fun b => b < w.heap.size) w' A n c ks :=
  h.toF.keep hb.size fun b hF hlt => ⟨hF, hb.block b hlt⟩
theorem KSF.lt {F : Nat → Prop} {w : World} {A : Option Addr} {n c : Nat} {ks : List Od} (h : KSF F w A n c ks) : KSF (fun b => F b ∧ b < w.heap.size) w A n c ks :=
  h.keep (Nat.le_refl _) fun _ hF hlt => ⟨⟨hF, hlt⟩, rfl⟩

/-- routes in the variable that lies in block N; their chunks lie in a row of the call's own; blocks from hi on are others -/
structure Vr (B lo hi N : Nat) (w : World) (a : RA) (R : Ro) (cs : List Ch) (wr : World) : Prop where
  b0 : Blk wr N 30 (rarr a R)
  own : wr.ownsRow lo 45 5 (.slice a.CA a.cn a.cc) a.cn (flat recC cs)
  og : ∀ g, (Value.slice a.CA a.cn a.cc).ownBlock = some g → g < hi
  ks : KSF (fun b => ((b < B ∨ lo ≤ b) ∧ b < hi) ∧ (Value.slice a.CA a.cn a.cc).ownBlock ≠ some b) wr a.KA a.kn a.kc R.ks
  ln : a.cn = cs.length
  sz : a.cn * 56 ≤ reach
  bel : Below B w wr
  hn : B ≤ N ∧ N < lo ∧ lo ≤ hi ∧ hi ≤ wr.heap.size
section
variable {B lo hi N : Nat} {w wr w1 : World} {a : RA} {R : Ro} {cs : List Ch}
theorem Vr.step (h : Vr B lo hi N w a R cs wr) (hb : Below wr.heap.size wr w1) : Vr B lo hi N w a R cs w1 :=
  ⟨h.b0.step hb, own_step h.own hb, h.og, h.ks.keep hb.size fun b hF hlt => ⟨hF, hb.block b hlt⟩, h.ln, h.sz, h.bel.trans (hb.mono (by have := h.hn; omega)), ⟨h.hn.1, h.hn.2.1, h.hn.2.2.1, Nat.le_trans h.hn.2.2.2 hb.size⟩⟩
theorem Vr.of {a0 : RA} {R0 : Ro} (h0 : Blk w1 N 30 (rarr a0 R0)) (hN : B ≤ N) (hNl : N < lo)
    (hks : KSF (fun b => (b < B ∨ lo ≤ b) ∧ (Value.slice a.CA a.cn a.cc).ownBlock ≠ some b) w1 a.KA a.kn a.kc R.ks) (hown : w1.ownsRow lo 45 5 (.slice a.CA a.cn a.cc) a.cn (flat recC R.cs))
    (hln : a.cn = R.cs.length) (hsz : a.cn * 56 ≤ reach) (hlo : lo ≤ w1.heap.size) (hbel : Below B w w1) : Vr B lo w1.heap.size N w a R R.cs (setR w1 N a R) := by
  have hge := own_ge hown
  refine ⟨h0.putR, own_keep hown fun g hg => heap_setR _ _ _ _ g (by have := hge g hg; omega), fun g hg => own_lt hown hg, hks.lt.keep (by rw [size_setR]; exact Nat.le_refl _) fun b hF hlt => ⟨⟨⟨hF.1.1, hF.2⟩, hF.1.2⟩, heap_setR _ _ _ _ b (by have := hF.1.1; omega)⟩, hln, hsz, below_setR hbel hN _ _, ⟨hN, hNl, hlo, by rw [size_setR]; exact Nat.le_refl _⟩⟩
/-- a store into a chunk -/
theorem Vr.put {g : Nat} (h : Vr B lo hi N w a R cs wr) (hg : a.CA = some ⟨g, 0, none⟩) {i j : Nat} {c c' : Ch} {v : Value} (hi' : cs[i]? = some c) (hj : j < 5) (he : (recC c).set j v = recC c') : Vr B lo hi N w a R (cs.set i c') (wr.setCell ⟨g, i * 5 + j, none⟩ v) := by
  obtain ⟨KA, kn, kc, CA, cn, cc⟩ := a
  simp only at hg
  subst hg
  have hge := own_ge h.own g rfl
  have ho := own_set h.own (i * 5 + j) v
  rw [flat_setj recC_length hi' hj he] at ho
  refine ⟨h.b0.far (by show N ≠ g; have := h.hn; omega) _, ho, h.og, h.ks.keep (by simp [World.setCell]) fun b hF _ => ⟨hF, Below.heap_setCell _ _ _ b (by show b ≠ g; intro e; exact hF.2 (by rw [e]; rfl))⟩, by rw [List.length_set]; exact h.ln, h.sz, h.bel.setCell (by show B ≤ g; have := h.hn; omega) _, ?_⟩
  have := h.hn
  simpa using this
/-- a store into another block -/
theorem Vr.far (h : Vr B lo hi N w a R cs wr) {p : Addr} (hp : hi ≤ p.block ∨ (B ≤ p.block ∧ p.block < lo ∧ p.block ≠ N)) (v : Value) : Vr B lo hi N w a R cs (wr.setCell p v) := by
  have hn := h.hn
  refine ⟨h.b0.far (by omega) _, own_far h.own (fun e => by have := h.og _ e; have := own_ge h.own _ e; omega) _, h.og, h.ks.keep (by simp [World.setCell]) fun b hF _ => ⟨hF, Below.heap_setCell _ _ _ b (by have := hF.1; omega)⟩, h.ln, h.sz, h.bel.setCell (by omega) _, by simpa using hn⟩
theorem Vr.get (h : Vr B lo hi N w a R cs wr) {i : Nat} {c : Ch} (hi' : cs[i]? = some c) : ∃ g, a.CA = some ⟨g, 0, none⟩ ∧ lo ≤ g ∧ g < hi ∧ ∀ j v, (recC c)[j]? = some v → wr.cell? ⟨g, i * 5 + j, none⟩ = some v ∧ wr.frozen? ⟨g, i * 5 + j, none⟩ = false := by
  obtain ⟨KA, kn, kc, CA, cn, cc⟩ := a
  have hl : i < cs.length := (List.getElem?_eq_some_iff.1 hi').1
  have hln : cn = cs.length := h.ln
  obtain ⟨g, cap, hv, hge, _⟩ := h.own.form (by show 0 < cn; omega)
  have hv2 : CA = some ⟨g, 0, none⟩ := by injection hv
  subst hv2
  exact ⟨g, rfl, hge, h.og g rfl, fun j v hv => own_cell h.own (flat_get recC_length hi' hv)⟩
end

/-- what is left at the end of a change -/
theorem change_end {B lo g1 : Nat} {w wr : World} {a b : RA} {R S : Ro} (hB : B = w.heap.size) (h1 : Blk wr g1 30 (rarr b S)) (hg : B ≤ g1) (hgl : g1 < lo) (hsp : R.sp.size ≤ reach)
    (hks : KSF (fun b => b < B ∨ lo ≤ b) wr a.KA a.kn a.kc R.ks) (hown : wr.ownsRow lo 45 5 (.slice a.CA a.cn a.cc) a.cn (flat recC R.cs)) (hln : a.cn = R.cs.length) (hsz : a.cn * 56 ≤ reach) (hbel : Below B w wr) :
    RouOk (R, 0) w (.returned (.tuple #[rval a R, .int .i64 0])) (setR wr g1 a R) ∧ Blk (setR wr g1 a R) g1 30 (rarr a R) := by
  subst hB
  have ho := own_keep hown (w' := setR wr g1 a R) fun g hg => heap_setR _ _ _ _ g (by have := own_ge hown g hg; omega)
  obtain ⟨A', c', hv, hsr⟩ := SR.of_own recC_length ho hln.symm
  injection hv with e1 e2 e3
  subst e1 e3
  refine ⟨⟨a, rfl, ⟨hsp, (hks.keep (G := fun _ => True) (by rw [size_setR]; exact Nat.le_refl _) fun b hF _ => ⟨trivial, heap_setR _ _ _ _ b (by omega)⟩).ks, ⟨hsr, hsz⟩⟩, below_setR hbel hg _ _⟩, h1.putR⟩
theorem change_err {g1 : Nat} {w wr : World} {b : RA} {S : Ro} (n : Int) (h1 : Blk wr g1 30 (rarr b S)) (hg : w.heap.size ≤ g1) (hbel : Below w.heap.size w wr) :
    RouOk (Ro.zero, n) w (.returned (.tuple #[rval RA.zero Ro.zero, .int .i64 n])) (setR wr g1 RA.zero Ro.zero) ∧ Blk (setR wr g1 RA.zero Ro.zero) g1 30 (rarr RA.zero Ro.zero) :=
  ⟨⟨RA.zero, rfl, RR.zero, below_setR hbel hg _ _⟩, h1.putR⟩
theorem RouOk.eq {r s : Ro × Int} {w w' : World} {e : Ending} (h : r = s) (k : RouOk s w e w') : RouOk r w e w' := by rw [h]; exact k
theorem set_two {cs : List Ch} {i : Nat} {c d : Ch} : (cs.set i c).set i d = cs.set i d := by simp

end Go.Proofs.YtgcklgkhdokchaaDoor
