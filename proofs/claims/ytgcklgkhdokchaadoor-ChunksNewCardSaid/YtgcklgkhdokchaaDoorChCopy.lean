/- The contracts of chunks.copied and chunks.changed. -/
import Derived.Test.YtgcklgkhdokchaaDoorChClone
import Derived.Test.YtgcklgkhdokchaaDoorChPure
namespace Go.Proofs.YtgcklgkhdokchaaDoor
open Go.RowKit

theorem flat_setj {α : Type} {rec : α → List Value} {s : Nat} (hs : ∀ a, (rec a).length = s) : ∀ {xs : List α} {i j : Nat} {a a' : α} {v : Value}, xs[i]? = some a → j < s → (rec a).set j v = rec a' → (flat rec xs).set (i * s + j) v = flat rec (xs.set i a') := by
  intro xs
  induction xs with
  | nil => intro i j a a' v h; simp at h
  | cons b l ih =>
    intro i j a a' v h1 hj h2
    have e : ∀ (y : α) (t : List α), flat rec (y :: t) = rec y ++ flat rec t := fun _ _ => rfl
    cases i with
    | zero =>
      simp at h1
      subst h1
      rw [Nat.zero_mul, Nat.zero_add, List.set_cons_zero, e, e, List.set_append_left _ _ (by rw [hs]; exact hj), h2]
    | succ i =>
      rw [List.set_cons_succ, e, e, List.set_append_right _ _ (by rw [hs, Nat.add_mul]; omega), hs, show (i + 1) * s + j - s = i * s + j by rw [Nat.add_mul]; omega, ih (by simpa using h1) hj h2]
/-- a store into a row of the call's own -/
theorem own_set {w : World} {base : Nat} {e : TypeId} {size n c g : Nat} {xs : List Value} (h : w.ownsRow base e size (.slice (some ⟨g, 0, none⟩) n c) n xs) (k : Nat) (u : Value) :
    (w.setCell ⟨g, k, none⟩ u).ownsRow base e size (.slice (some ⟨g, 0, none⟩) n c) n (xs.set k u) := by
  refine ⟨by rw [List.length_set]; exact h.1, ?_⟩
  rcases h.2 with ⟨h1, _⟩ | ⟨g', cap, cur, hv, hg, hh, hnc, hm, hsz, htk⟩
  · cases h1
  · injection hv with h1 h2 h3
    injection h1 with h1
    injection h1 with h1
    subst h1 h3
    have hb : Blk w g e cur := hh
    refine .inr ⟨g, c, cur.setIfInBounds k u, rfl, hg, hb.set_ k u, hnc, hm, by simpa using hsz, ?_⟩
    rw [Array.toList_setIfInBounds, List.take_set, htk]
theorem own_cell {w : World} {base : Nat} {e : TypeId} {size n c g : Nat} {xs : List Value} (h : w.ownsRow base e size (.slice (some ⟨g, 0, none⟩) n c) n xs) {k : Nat} {u : Value} (hk : xs[k]? = some u) : w.cell? ⟨g, k, none⟩ = some u ∧ w.frozen? ⟨g, k, none⟩ = false := by
  have := h.cells (g := g) rfl k u hk
  rw [addr_add, Nat.zero_add] at this
  refine ⟨this, ?_⟩
  rcases h.2 with ⟨h1, _⟩ | ⟨g', cap, cur, hv, hg, hh, _⟩
  · cases h1
  · injection hv with h1
    injection h1 with h1
    injection h1 with h1
    subst h1
    exact Blk.frozen (t := e) (cs := cur) hh k
theorem own_mono {w : World} {base base' : Nat} {e : TypeId} {size n : Nat} {v : Value} {xs : List Value} (h : w.ownsRow base e size v n xs) (hb : base' ≤ base) : w.ownsRow base' e size v n xs := by
  refine ⟨h.1, ?_⟩
  rcases h.2 with h2 | ⟨g, cap, cur, hv, hg, hr⟩
  · exact .inl h2
  · exact .inr ⟨g, cap, cur, hv, by omega, hr⟩
theorem own_far {w : World} {base : Nat} {e : TypeId} {size n : Nat} {v : Value} {xs : List Value} (h : w.ownsRow base e size v n xs) {p : Addr} (hp : v.ownBlock ≠ some p.block) (u : Value) : (w.setCell p u).ownsRow base e size v n xs :=
  own_keep h fun g hg => Below.heap_setCell w p u g (fun e => hp (by rw [← e]; exact hg))

/-- footprints -/
structure STF (F : Nat → Prop) (w : World) (A : Option Addr) (n c : Nat) (l : List ByteArray) : Prop where
  st : ST w A n c l
  blk : 0 < n → ∀ b off, A = some ⟨b, off, none⟩ → F b
theorem ST.keep {w w' : World} {A : Option Addr} {n c : Nat} {l : List ByteArray} (h : ST w A n c l) (hs : w.heap.size ≤ w'.heap.size) (hk : 0 < n → ∀ b off, A = some ⟨b, off, none⟩ → w'.heap[b]? = w.heap[b]?) : ST w' A n c l := by
  refine ⟨⟨h.sr.ln, h.sr.lc, fun hn => ?_⟩, h.sz, h.el⟩
  obtain ⟨b, off, h1, h2, h3⟩ := h.sr.el hn
  exact ⟨b, off, h1, by omega, fun i a hi j v hj => (World.cell?_of_block (w := w) (a := ⟨b, off + i * 1 + j, none⟩) (hk hn b off h1)).trans (h3 i a hi j v hj)⟩
theorem STF.keep {F G : Nat → Prop} {w w' : World} {A : Option Addr} {n c : Nat} {l : List ByteArray} (h : STF F w A n c l) (hs : w.heap.size ≤ w'.heap.size) (hk : ∀ b, F b → b < w.heap.size → G b ∧ w'.heap[b]? = w.heap[b]?) : STF G w' A n c l := by
  have hlt : 0 < n → ∀ b off, A = some ⟨b, off, none⟩ → b < w.heap.size := by
    intro hn b off e
    obtain ⟨b', off', h1, h2, _⟩ := h.st.sr.el hn
    rw [e] at h1
    cases h1
    exact h2
  exact ⟨h.st.keep hs fun hn b off e => (hk b (h.blk hn b off e) (hlt hn b off e)).2, fun hn b off e => (hk b (h.blk hn b off e) (hlt hn b off e)).1⟩
structure ORF (F : Nat → Prop) (w : World) (o : OC) (q : Od) : Prop where
  d : o.d = q.d
  st : STF F w o.A o.n o.c q.p
theorem ORF.keep {F G : Nat → Prop} {w w' : World} {o : OC} {q : Od} (h : ORF F w o q) (hs : w.heap.size ≤ w'.heap.size) (hk : ∀ b, F b → b < w.heap.size → G b ∧ w'.heap[b]? = w.heap[b]?) : ORF G w' o q := ⟨h.d, h.st.keep hs hk⟩
def KSF (F : Nat → Prop) (w : World) (A : Option Addr) (n c : Nat) (ks : List Od) : Prop :=
  ∃ os : List OC, SR 2 recO w A n c os ∧ n * 32 ≤ reach ∧ os.length = ks.length ∧ (0 < n → ∀ b off, A = some ⟨b, off, none⟩ → F b) ∧ ∀ (i : Nat) (o : OC) (q : Od), os[i]? = some o → ks[i]? = some q → ORF F w o q
theorem KSF.ks {F : Nat → Prop} {w : World} {A : Option Addr} {n c : Nat} {ks : List Od} (h : KSF F w A n c ks) : KS w A n c ks := by
  obtain ⟨os, h1, h2, h3, h4, h5⟩ := h
  exact ⟨os, h1, h2, h3, fun i o q hi hq => ⟨(h5 i o q hi hq).d, (h5 i o q hi hq).st.st⟩⟩
theorem KSF.keep {F G : Nat → Prop} {w w' : World} {A : Option Addr} {n c : Nat} {ks : List Od} (h : KSF F w A n c ks) (hs : w.heap.size ≤ w'.heap.size) (hk : ∀ b, F b → b < w.heap.size → G b ∧ w'.heap[b]? = w.heap[b]?) : KSF G w' A n c ks := by
  obtain ⟨os, h1, h2, h3, h4, h5⟩ := h
  have hlt : 0 < n → ∀ b off, A = some ⟨b, off, none⟩ → b < w.heap.size := by
    intro hn b off e
    obtain ⟨b', off', k1, k2, _⟩ := h1.el hn
    rw [e] at k1
    cases k1
    exact k2
  refine ⟨os, ⟨h1.ln, h1.lc, fun hn => ?_⟩, h2, h3, fun hn b off e => (hk b (h4 hn b off e) (hlt hn b off e)).1, fun i o q hi hq => (h5 i o q hi hq).keep hs hk⟩
  obtain ⟨b, off, k1, k2, k3⟩ := h1.el hn
  exact ⟨b, off, k1, by omega, fun i a hi j v hj => (World.cell?_of_block (w := w) (a := ⟨b, off + i * 2 + j, none⟩) (hk b (h4 hn b off k1) k2).2).trans (k3 i a hi j v hj)⟩
theorem KS.toF {w : World} {A : Option Addr} {n c : Nat} {ks : List Od} (h : KS w A n c ks) : KSF (fun b => b < w.heap.size) w A n c ks := by
  obtain ⟨os, h⟩ := h
  refine ⟨os, h.sr, h.sz, h.ln, fun hn b off e => ?_, fun i o q hi hq => ⟨(h.el i o q hi hq).d, (h.el i o q hi hq).st, fun hn b off e => ?_⟩⟩
  · obtain ⟨b', off', k1, k2, _⟩ := h.sr.el hn
    rw [e] at k1
    cases k1
    exact k2
  · obtain ⟨b', off', k1, k2, _⟩ := (h.el i o q hi hq).st.sr.el hn
    rw [e] at k1
    cases k1
    exact k2

/-- six stores -/
abbrev setR (w : World) (g : Nat) (a : RA) (R : Ro) : World :=
  (((((w.setCell ⟨g, 0, none⟩ (.string R.sp)).setCell ⟨g, 1, none⟩ (.slice a.KA a.kn a.kc)).setCell ⟨g, 2, none⟩ (.bool R.ha)).setCell ⟨g, 3, none⟩ (.int .i64 R.ep)).setCell ⟨g, 4, none⟩ (.int .i64 R.ver)).setCell ⟨g, 5, none⟩ (.slice a.CA a.cn a.cc)
theorem Blk.putR {w : World} {g : Nat} {t : TypeId} {a b : RA} {R S : Ro} (h : Blk w g t (rarr b S)) : Blk (setR w g a R) g t (rarr a R) := (((((h.set_ 0 _).set_ 1 _).set_ 2 _).set_ 3 _).set_ 4 _).set_ 5 _
theorem heap_setR (w : World) (g : Nat) (a : RA) (R : Ro) (b : Nat) (h : b ≠ g) : (setR w g a R).heap[b]? = w.heap[b]? := by
  unfold setR
  iterate 6 rw [Below.heap_setCell _ _ _ b h]
theorem size_setR (w : World) (g : Nat) (a : RA) (R : Ro) : (setR w g a R).heap.size = w.heap.size := by simp [setR, World.setCell]
theorem below_setR {B : Nat} {a0 w : World} (h : Below B a0 w) {g : Nat} (hB : B ≤ g) (a : RA) (R : Ro) : Below B a0 (setR w g a R) :=
  (((((h.setCell hB _).setCell hB _).setCell hB _).setCell hB _).setCell hB _).setCell hB _

theorem load_ro (g : Nat) (a : RA) (R : Ro) (W : World) (q : Blk W g 30 (rarr a R)) : (loadVar 30 ⟨g, 0, none⟩).run Tryd.prog W = .ok (rval a R) W := by
  have q0 := q.cell 0
  have q1 := q.cell 1
  have q2 := q.cell 2
  have q3 := q.cell 3
  have q4 := q.cell 4
  have q5 := q.cell 5
  simp at q0 q1 q2 q3 q4 q5
  simp [go_sem, q0, q1, q2, q3, q4, q5]
theorem results_ro {fn : Func} {p : Tmp} (h : fn.results = #[.cell p 30]) (tmps : Array Value) (g1 : Nat) (h1 : tmps[p]?.getD undef = .pointer (some ⟨g1, 0, none⟩)) (W : World) (a : RA) (R : Ro) (q : Blk W g1 30 (rarr a R)) :
    (results fn tmps).run Tryd.prog W = .ok (rval a R) W := by
  have := load_ro g1 a R W q
  simp [results, h, h1, asAddr, this]
theorem results_ro_err {fn : Func} {p u : Tmp} (h : fn.results = #[.cell p 30, .tmp u]) (tmps : Array Value) (g1 : Nat) (h1 : tmps.getD p undef = .pointer (some ⟨g1, 0, none⟩)) (e : Value) (h2 : tmps.getD u undef = e)
    (W : World) (a : RA) (R : Ro) (q : Blk W g1 30 (rarr a R)) : (results fn tmps).run Tryd.prog W = .ok (.tuple #[rval a R, e]) W := by
  rw [results_cell_tmp h, h1, h2]
  simp [asAddr, load_ro g1 a R W q]

/-- the state of copied's loop -/
structure Cpy (B : Nat) (w : World) (a : RA) (R : Ro) (A : Option Addr) (c : Nat) (os : List OC) (wr : World) : Prop where
  b0 : Blk wr w.heap.size 30 (rarr ⟨A, a.kn, c, a.CA, a.cn, a.cc⟩ R)
  b1 : Blk wr (w.heap.size + 1) 30 (rarr RA.zero Ro.zero)
  own : wr.ownsRow (w.heap.size + 2) 53 2 (.slice A a.kn c) a.kn (flat recO os)
  ln : os.length = a.kn
  el : ∀ (i : Nat) (o : OC) (q : Od), os[i]? = some o → R.ks[i]? = some q → ORF (fun b => (b < B ∨ w.heap.size + 2 ≤ b) ∧ (Value.slice A a.kn c).ownBlock ≠ some b) wr o q
  bel : Below w.heap.size w wr
theorem Cpy.step {B : Nat} {w wr w1 : World} {a : RA} {R : Ro} {A : Option Addr} {c : Nat} {os : List OC} (h : Cpy B w a R A c os wr) (hb : Below wr.heap.size wr w1) : Cpy B w a R A c os w1 :=
  ⟨h.b0.step hb, h.b1.step hb, own_step h.own hb, h.ln, fun i o q hi hq => (h.el i o q hi hq).keep hb.size fun b hF hlt => ⟨hF, hb.block b hlt⟩, h.bel.step' hb⟩
theorem Cpy.next {B : Nat} {w wr : World} {a : RA} {R : Ro} {g c : Nat} {os : List OC} (h : Cpy B w a R (some ⟨g, 0, none⟩) c os wr) {i : Nat} {o : OC} {q : Od} (hi : os[i]? = some o) (hq : R.ks[i]? = some q) {A : Option Addr} {n k : Nat}
    (hst : STF (fun b => w.heap.size + 2 ≤ b ∧ b ≠ g) wr A n k q.p) : Cpy B w a R (some ⟨g, 0, none⟩) c (os.set i ⟨A, n, k, o.d⟩) (wr.setCell ⟨g, i * 2, none⟩ (.slice A n k)) := by
  have hg : w.heap.size + 2 ≤ g := own_ge h.own g rfl
  have hown := own_set h.own (i * 2) (.slice A n k)
  rw [show i * 2 = i * 2 + 0 by rfl, flat_setj recO_length hi (by omega) (a' := ⟨A, n, k, o.d⟩) rfl] at hown
  refine ⟨h.b0.far (by show w.heap.size ≠ g; omega) _, h.b1.far (by show w.heap.size + 1 ≠ g; omega) _, hown, by rw [List.length_set]; exact h.ln, fun j o' q' hj hq' => ?_, h.bel.setCell (by show w.heap.size ≤ g; omega) _⟩
  rw [List.getElem?_set] at hj
  split at hj
  · rename_i e
    subst e
    split at hj
    · injection hj with hj
      subst hj
      rw [hq] at hq'
      injection hq' with hq'
      subst hq'
      exact ⟨(h.el i o q hi hq).d, hst.keep (by simp [World.setCell]) fun b hF _ => ⟨⟨.inr hF.1, by simp [Value.ownBlock]; exact fun e => hF.2 e.symm⟩, Below.heap_setCell _ _ _ b hF.2⟩⟩
    · cases hj
  · exact (h.el j o' q' hj hq').keep (by simp [World.setCell]) fun b hF _ => ⟨hF, Below.heap_setCell _ _ _ b fun e => hF.2 (by simp [Value.ownBlock]; exact e.symm)⟩

/-- what a copy of routes is: the chunks lie in a row of its own -/
def CopOk (B : Nat) (w : World) (R : Ro) (e : Ending) (w' : World) : Prop :=
  ∃ a : RA, e = .returned (rval a R) ∧ KSF (fun b => (b < B ∨ w.heap.size ≤ b) ∧ (Value.slice a.CA a.cn a.cc).ownBlock ≠ some b) w' a.KA a.kn a.kc R.ks ∧ w'.ownsRow w.heap.size 45 5 (.slice a.CA a.cn a.cc) a.cn (flat recC R.cs) ∧ a.cn = R.cs.length ∧ a.cn * 56 ≤ reach ∧ Below w.heap.size w w'

set_option maxRecDepth 100000 in
set_option maxHeartbeats 2000000 in
theorem copied_any (B : Nat) (R : Ro) (a : RA) (w : World) (hB : B ≤ w.heap.size) (hk : KSF (fun b => b < B) w a.KA a.kn a.kc R.ks) (hc : CS w a.CA a.cn a.cc R.cs) : Calls Tryd.prog 24 #[rval a R] w (CopOk B w R) := by
  obtain ⟨KA, kn, kc, CA, cn, cc⟩ := a
  have hln := Lib.hid hk.ks.ln
  have HCS := Lib.hid hc
  obtain ⟨os, hkz, hkl, hkb, hke⟩ := hk
  obtain ⟨hkz, hsr⟩ : kn * 32 ≤ reach ∧ SR 2 recO w KA kn kc os := ⟨hkl, hkz⟩
  have hkn : kn ≤ 140737488355328 := by unfold reach at hkz; omega
  have HSR := Lib.hid hsr
  have HKZ := Lib.hid hkz
  have HKL := Lib.hid hkb
  have HKE := Lib.hid hke.2
  clear hc hkl hkb hke hsr hkz
  have B0 : Hid (Blk ((w.alloc (Obj.cells (rarr ⟨KA, kn, kc, CA, cn, cc⟩ R) 30)).alloc (Obj.cells (rarr RA.zero Ro.zero) 30)) w.heap.size 30 (rarr ⟨KA, kn, kc, CA, cn, cc⟩ R)) := (Blk.new_at rfl).alloc _
  have B1 : Hid (Blk ((w.alloc (Obj.cells (rarr ⟨KA, kn, kc, CA, cn, cc⟩ R) 30)).alloc (Obj.cells (rarr RA.zero Ro.zero) 30)) (w.heap.size + 1) 30 (rarr RA.zero Ro.zero)) := Blk.new_at (by simp)
  have BE : Hid (Below w.heap.size w ((w.alloc (Obj.cells (rarr ⟨KA, kn, kc, CA, cn, cc⟩ R) 30)).alloc (Obj.cells (rarr RA.zero Ro.zero) 30))) := ((Below.refl _ _).alloc (Nat.le_refl _) _).alloc (by simp) _
  go_enter Tryd.func24, Tryd.ntmps24
  go_upto_region 1 with fail
  change (Code.region 1 _ _).wp _ _ _ ((w.alloc (Obj.cells (rarr ⟨KA, kn, kc, CA, cn, cc⟩ R) 30)).alloc (Obj.cells (rarr RA.zero Ro.zero) 30))
  have hsz : ((w.alloc (Obj.cells (rarr ⟨KA, kn, kc, CA, cn, cc⟩ R) 30)).alloc (Obj.cells (rarr RA.zero Ro.zero) 30)).heap.size = w.heap.size + 2 := by simp
  generalize (w.alloc (Obj.cells (rarr ⟨KA, kn, kc, CA, cn, cc⟩ R) 30)).alloc (Obj.cells (rarr RA.zero Ro.zero) 30) = wa at *
  have HSZ := Lib.hid hsz
  clear hsz
  have q1 := B0.out.cell 1
  simp at q1
  go_wp2_with fail
  refine (cloneO_any os _ _ _ _ (HSR.out.step BE.out) HKZ.out).mono ?_
  rintro e w1 ⟨v, rfl, hown, hb1⟩
  obtain ⟨A1, c1, rfl, hle1⟩ := own_slice hown
  have g0 := B0.out.step hb1
  have g1 := B1.out.step hb1
  have z1 := g0.frozen 1
  have y1 := g0.cell 1
  simp at y1
  rw [HSZ.out] at hown
  have I0 : Hid (Cpy B w ⟨KA, kn, kc, CA, cn, cc⟩ R A1 c1 os (w1.setCell ⟨w.heap.size, 1, none⟩ (.slice A1 kn c1))) := by
    have hne : (Value.slice A1 kn c1).ownBlock ≠ some w.heap.size := own_ne hown (by omega)
    refine ⟨g0.set_ 1 _, g1.far (by show w.heap.size + 1 ≠ w.heap.size; omega) _, own_far hown hne _, by have := HSR.out.ln; exact this.symm, fun i o q hi hq => ?_, (BE.out.step' hb1).setCell (Nat.le_refl _) _⟩
    exact (HKE.out i o q hi hq).keep (by have := (BE.out.step' hb1).size; simpa [World.setCell] using this) fun b hF _ => ⟨⟨.inl hF, own_ne hown (by omega)⟩, by rw [Below.heap_setCell _ _ _ b (by show b ≠ w.heap.size; omega)]; exact (BE.out.step' hb1).block b (by omega)⟩
  clear q1 g0 g1 hown hb1 B0 B1
  go_upto_region 2 with fail
  clear z1 y1
  generalize w1.setCell ⟨w.heap.size, 1, none⟩ (.slice A1 kn c1) = w2 at *
  have q1 := I0.out.b0.cell 1
  simp at q1
  go_wp2_with fail
  clear q1
  go_loopw [14, 3] (fun v14 v3 wr => ∃ (i : Nat) (os' : List OC), i ≤ kn ∧ v14 = .int .i64 i ∧ Cpy B w ⟨KA, kn, kc, CA, cn, cc⟩ R A1 c1 os' wr) (fun v14 _ _ => kn - (intOf v14).toNat)
  case atStart => exact ⟨0, os, Nat.zero_le _, rfl, I0.out⟩
  case round =>
    obtain ⟨i, os', hi, rfl, I⟩ := hrel
    have J := Lib.hid I
    have hbn : w.heap.size < wr.heap.size := I.b0.lt
    by_cases hlt : i < kn
    · obtain ⟨o, ho⟩ : ∃ o, os'[i]? = some o := ⟨_, List.getElem?_eq_getElem (by rw [I.ln]; exact hlt)⟩
      obtain ⟨q, hq⟩ : ∃ q, R.ks[i]? = some q := ⟨_, List.getElem?_eq_getElem (by have := hln.out; omega)⟩
      obtain ⟨g, cap, hv, hgb, hgl⟩ := I.own.form (by show 0 < kn; omega)
      have hv : A1 = some ⟨g, 0, none⟩ := by injection hv
      subst hv
      have r0 := (own_cell I.own (flat_get recO_length ho (j := 0) rfl)).1
      simp only [Nat.add_zero] at r0
      have q1 := I.b0.cell 1
      simp at q1
      have HOR := Lib.hid (I.el i o q ho hq)
      have HO := Lib.hid ho
      have HQ := Lib.hid hq
      have HGB := Lib.hid hgb
      obtain ⟨oA, on, oc, od⟩ := o
      simp only at r0
      have hi0 : (0 : Int) ≤ (i : Int) := by omega
      have hi1 : (i : Int) < (kn : Int) := by omega
      clear ho hq hgb I
      go_upto_region 5 with fail
      go_region_law ((go_simp; go_at_call 27; refine (cloneT_any q.p _ _ _ _ (HOR.out.st.st.step ((Below.refl _ _).drewN 1)).sr HOR.out.st.st.sz).mono ?_; rintro e w3 ⟨v, rfl, hown, hb3⟩; replace hb3 : Below wr.heap.size wr w3 := hb3.undrewN; replace hown : w3.ownsRow wr.heap.size 9 1 v on (flat recT q.p) := hown; obtain ⟨A2, c2, hv2, hsr2⟩ := SR.of_own recT_length hown (by have := HOR.out.st.st.sr.ln; exact this.symm); have hge := own_ge hown; rw [hv2] at hge ⊢; have s0 := (hb3.cell (p := ⟨w.heap.size, 1, none⟩) J.out.b0.lt).trans q1; have s1 := (hb3.cell (p := ⟨g, i * 2, none⟩) hgl).trans r0; have LX := Lib.hid (J.out.step hb3); have z : w3.frozen? ⟨g, i * 2, none⟩ = false := (own_cell LX.out.own (flat_get recO_length HO.out (j := 0) rfl)).2; have HG := Lib.hid hge; have HR2 := Lib.hid hsr2; clear hb3 hown hv2 hge hsr2))
      all_goals
        clear s0 s1 z q1 r0
        go_wp2_with fail
        go_roundw
        case rel => exact ⟨i + 1, _, by omega, by go_num, LX.out.next HO.out HQ.out ⟨⟨HR2.out, HOR.out.st.st.sz, HOR.out.st.st.el⟩, fun hn b off e => by have := HG.out b (by rw [e]; rfl); have := J.out.b1.lt; exact ⟨by omega, by omega⟩⟩⟩
        case measure => simp [intOf]; omega
    · have hik : i = kn := by omega
      have q5 := I.b0.cell 5
      simp at q5
      go_upto_region 7 with fail
      go_wp2_with fail
      refine (cloneC_any R.cs _ _ _ _ (HCS.out.sr.step I.bel) HCS.out.sz).mono ?_
      rintro e w3 ⟨v, rfl, hown, hb3⟩
      obtain ⟨A3, c3, rfl, hle3⟩ := own_slice hown
      have LX := Lib.hid (I.step hb3)
      have z5 := LX.out.b0.frozen 5
      have y5 := LX.out.b0.cell 5
      simp at y5
      have hgel := own_ge hown
      have hbs := I.b1.lt
      have D0 : Hid (Blk (w3.setCell ⟨w.heap.size, 5, none⟩ (.slice A3 cn c3)) w.heap.size 30 (rarr ⟨A1, kn, c1, A3, cn, c3⟩ R)) := LX.out.b0.set_ 5 _
      have D1 : Hid (Blk (w3.setCell ⟨w.heap.size, 5, none⟩ (.slice A3 cn c3)) (w.heap.size + 1) 30 (rarr RA.zero Ro.zero)) := LX.out.b1.far (by show w.heap.size + 1 ≠ w.heap.size; omega) _
      have DO := Lib.hid (own_far hown (p := ⟨w.heap.size, 5, none⟩) (fun e => by have := hgel _ e; simp only at this; omega) (.slice A3 cn c3))
      have DB : Hid (Below w.heap.size w (w3.setCell ⟨w.heap.size, 5, none⟩ (.slice A3 cn c3))) := LX.out.bel.setCell (Nat.le_refl _) _
      have DK : Hid (KSF (fun b => (b < B ∨ w.heap.size + 2 ≤ b) ∧ (Value.slice A3 cn c3).ownBlock ≠ some b) (w3.setCell ⟨w.heap.size, 5, none⟩ (.slice A3 cn c3)) A1 kn c1 R.ks) := by
        have hK : KSF (fun b => b < B ∨ w.heap.size + 2 ≤ b) wr A1 kn c1 R.ks := by
          obtain ⟨A', c', hv, hsr⟩ := SR.of_own recO_length I.own I.ln
          injection hv with h1 h2 h3
          subst h1 h3
          refine ⟨os', hsr, HKZ.out, by rw [I.ln]; exact hln.out, fun hn b off e => ?_, fun i o q hi hq => (I.el i o q hi hq).keep (Nat.le_refl _) fun b hF _ => ⟨hF.1, rfl⟩⟩
          have := own_ge I.own b (by rw [e]; rfl)
          omega
        exact hK.keep (by have := hb3.size; simpa using this) fun b hF hlt => ⟨⟨hF, fun e => by have := hgel _ e; omega⟩, by rw [Below.heap_setCell _ _ _ b (by show b ≠ w.heap.size; omega)]; exact hb3.block b hlt⟩
      clear q5 hown hb3 hle3 I J hgel
      go_upto_region 8 with fail
      clear z5 y5
      generalize w3.setCell ⟨w.heap.size, 5, none⟩ (.slice A3 cn c3) = w4 at *
      have q0 := D0.out.cell 0
      have q1 := D0.out.cell 1
      have q2 := D0.out.cell 2
      have q3 := D0.out.cell 3
      have q4 := D0.out.cell 4
      have q5 := D0.out.cell 5
      have r0 := D1.out.cell 0
      have r1 := D1.out.cell 1
      have r2 := D1.out.cell 2
      have r3 := D1.out.cell 3
      have r4 := D1.out.cell 4
      have r5 := D1.out.cell 5
      have z := D1.out.frozen
      simp at q0 q1 q2 q3 q4 q5 r0 r1 r2 r3 r4 r5
      have E0 := Lib.hid (D1.out.putR (a := ⟨A1, kn, c1, A3, cn, c3⟩) (R := R))
      have E1 : Hid (KSF (fun b => (b < B ∨ w.heap.size ≤ b) ∧ (Value.slice A3 cn c3).ownBlock ≠ some b) (setR w4 (w.heap.size + 1) ⟨A1, kn, c1, A3, cn, c3⟩ R) A1 kn c1 R.ks) :=
        DK.out.keep (by rw [size_setR]; exact Nat.le_refl _) fun b hF _ => ⟨⟨by omega, hF.2⟩, heap_setR _ _ _ _ b (by omega)⟩
      have E2 : Hid ((setR w4 (w.heap.size + 1) ⟨A1, kn, c1, A3, cn, c3⟩ R).ownsRow w.heap.size 45 5 (.slice A3 cn c3) cn (flat recC R.cs)) :=
        own_mono (own_keep DO.out fun g hg => heap_setR _ _ _ _ g (by have := own_ge DO.out g hg; omega)) (by omega)
      have E3 : Hid (Below w.heap.size w (setR w4 (w.heap.size + 1) ⟨A1, kn, c1, A3, cn, c3⟩ R)) := below_setR DB.out (by omega) _ _
      clear DK DO DB D0 D1
      go_wp2_with fail
      clear q0 q1 q2 q3 q4 q5 r0 r1 r2 r3 r4 r5 z
      refine bodyPost_ret (results_ro rfl _ (w.heap.size + 1) rfl _ ⟨A1, kn, c1, A3, cn, c3⟩ R E0.out) rfl ?_
      exact ⟨⟨A1, kn, c1, A3, cn, c3⟩, rfl, E1.out, E2.out, HCS.out.ln, HCS.out.sz, E3.out⟩

end Go.Proofs.YtgcklgkhdokchaaDoor
