/- Parts of the proof, joined: ChBaseB, ChLawA. -/
import Derived.Test.YtblepmmibhphhaaGreatDoorRn18
import Derived.Shelf.Spec.SlicesInsertGrow
/- The contracts of slices.IndexFunc at chunks, of the functions that are handed to it, and of begins and Find. · The contracts of chunks.copied and chunks.changed. · The contract of chunks.changed. · The contracts of slices.Insert and slices.Delete at chunks. · The contract of slices.Delete at chunks: one chunk is taken out in place. · Routes in a variable, whose chunks lie in a row of the call's own. · The contract of chunks.Split. -/
namespace Go.Proofs.YtblepmmibhphhaaGreatDoor
open Go.RowKit

set_option maxRecDepth 100000 in
set_option maxHeartbeats 1000000 in
theorem indexC_any (f : FuncId) (m : Nat) (p : Ch → Bool) (l : List Ch) (A : Option Addr) (n c : Nat) (w : World) (h : CS w A n c l)
    (hent : ∀ args w, (callFunc f args).run Tryz.prog w = .ok (.enter f args) w)
    (hs : ∀ (x : Ch) (wr : World), Below w.heap.size w wr → Calls Tryz.prog f #[aggC x, .pointer (some ⟨m, 0, none⟩)] wr fun e w' => e = .returned (.bool (p x)) ∧ Below wr.heap.size wr w') :
    Calls Tryz.prog 93 #[.slice A n c, .func (.func f) #[] #[.pointer (some ⟨m, 0, none⟩)]] w fun e w' => e = .returned (.int .i64 (idxI p l)) ∧ Below w.heap.size w w' := by
  have hz : n ≤ 140737488355328 := by have := h.sz; unfold reach at this; omega
  have H := Lib.hid h
  have HS := Lib.hid hs
  clear h hs
  go_enter Tryz.func93, Tryz.ntmps93
  go_wp2_with fail
  go_loopw [8] (fun v wr => ∃ i : Nat, i ≤ n ∧ v = .int .i64 i ∧ idxI p l = idxFrom p (l.drop i) i ∧ Below w.heap.size w wr) (fun v _ => n - (intOf v).toNat)
  case atStart => exact ⟨0, Nat.zero_le _, rfl, rfl, Below.refl _ _⟩
  case round =>
    obtain ⟨i, hi, rfl, ha, hbel⟩ := hrel
    have HA := Lib.hid ha
    have HB := Lib.hid hbel
    clear ha
    by_cases hlt : i < n
    · obtain ⟨b, off, x, hA, hb, hx, e0, e1, e2, e3, e4⟩ := H.out.sr.at5 hlt
      subst hA
      have HX := Lib.hid (idxFrom_at (p := p) hx)
      have g0 := (hbel.cell (p := ⟨b, off + i * 5, none⟩) hb).trans e0
      have g1 := (hbel.cell (p := ⟨b, off + i * 5 + 1, none⟩) hb).trans e1
      have g2 := (hbel.cell (p := ⟨b, off + i * 5 + 2, none⟩) hb).trans e2
      have g3 := (hbel.cell (p := ⟨b, off + i * 5 + 3, none⟩) hb).trans e3
      have g4 := (hbel.cell (p := ⟨b, off + i * 5 + 4, none⟩) hb).trans e4
      clear hx e0 e1 e2 e3 e4 hbel
      go_wp2_with fail
      refine (HS.out x _ HB.out).mono ?_
      rintro e w1 ⟨rfl, hb1⟩
      have HB1 := Lib.hid (HB.out.step' hb1)
      clear hb1 g0 g1 g2 g3 g4
      cases hq : p x
      · have HF : Hid (idxI p l = idxFrom p (l.drop (i + 1)) (i + 1)) := by rw [Hid, HA.out, HX.out, hq]; rfl
        go_wp2_with fail
        go_roundw
        case rel => exact ⟨i + 1, by omega, by go_num, HF.out, HB1.out⟩
        case measure => simp [intOf]; omega
      · have HF : Hid (idxI p l = (i : Int)) := by rw [Hid, HA.out, HX.out, hq]; rfl
        go_wp2_with fail
        go_ret
        exact ⟨by rw [HF.out]; rfl, HB1.out⟩
    · have HF : Hid (idxI p l = -1) := by rw [Hid, HA.out]; exact idxFrom_end (by have := H.out.ln; omega)
      clear hbel
      go_wp2_with fail
      go_ret
      exact ⟨by rw [HF.out]; rfl, HB.out⟩

set_option maxHeartbeats 1000000 in
theorem find1_any (x : Ch) (m : Nat) (key : ByteArray) (w : World) (h : w.cell? ⟨m, 0, none⟩ = some (.string key)) :
    Calls Tryz.prog 94 #[aggC x, .pointer (some ⟨m, 0, none⟩)] w fun e w' => e = .returned (.bool (inB key x)) ∧ Below w.heap.size w w' := by
  have hm := World.block_lt_of_cell? w _ h
  cases h1 : Op.bytesLess key.toList x.lo.toList
  · cases h2 : (x.hi.toList == [])
    · have HV : Hid (inB key x = Op.bytesLess key.toList x.hi.toList) := by unfold Hid inB; rw [h1, h2]; rfl
      go_enter Tryz.func94, Tryz.ntmps94
      go_wp2_with fail
      go_ret
      exact ⟨by rw [HV.out]; rfl, (Below.refl _ _).alloc (Nat.le_refl _) _⟩
    · have HV : Hid (inB key x = true) := by unfold Hid inB; rw [h1, h2]; rfl
      go_enter Tryz.func94, Tryz.ntmps94
      go_wp2_with fail
      go_ret
      exact ⟨by rw [HV.out]; rfl, (Below.refl _ _).alloc (Nat.le_refl _) _⟩
  · have HV : Hid (inB key x = false) := by unfold Hid inB; rw [h1]; rfl
    go_enter Tryz.func94, Tryz.ntmps94
    go_wp2_with fail
    go_ret
    exact ⟨by rw [HV.out]; rfl, (Below.refl _ _).alloc (Nat.le_refl _) _⟩

set_option maxRecDepth 100000 in
theorem cfind_any (R : Ro) (a : RA) (key : ByteArray) (w : World) (h : RR w a R) :
    Calls Tryz.prog 58 #[rval a R, .string key] w fun e w' => e = .returned (.int .i64 (idxI (inB key) R.cs)) ∧ Below w.heap.size w w' := by
  have HA2 := Lib.hid (((Below.refl w.heap.size w).alloc (Nat.le_refl _) (Obj.cells (rarr a R) 45)).alloc (by simp) (Obj.cells #[.string key] 9))
  have HB : Hid (Blk ((w.alloc (Obj.cells (rarr a R) 45)).alloc (Obj.cells #[.string key] 9)) (w.heap.size + 1) 9 #[.string key]) := Blk.new_at (by simp)
  have H := Lib.hid h
  clear h
  go_enter Tryz.func58, Tryz.ntmps58
  go_wp2_with fail
  refine (indexC_any _ _ (inB key) R.cs _ _ _ _ (H.out.cs.step HA2.out) (fun _ _ => rfl) fun x wr hb => find1_any x _ key wr (((HB.out.step hb).cell 0))).mono ?_
  rintro e w1 ⟨rfl, hb1⟩
  go_wp2_with fail
  go_ret
  exact ⟨rfl, HA2.out.step' hb1⟩

end Go.Proofs.YtblepmmibhphhaaGreatDoor

namespace Go.Proofs.YtblepmmibhphhaaGreatDoor
open Go.RowKit

theorem flat_setj {α : Type} {rec : α → List Value} {s : Nat} (hs : ∀ a, (rec a).length = s) : ∀ {xs : List α} {i j : Nat} {a a' : α} {v : Value}, xs[i]? = some a → j < s → (rec a).set j v = rec a' → (flat rec xs).set (i * s + j) v = flat rec (xs.set i a') := by
  intro xs
  induction xs with
  | nil => intro i j a a' v h; simp at h
  | cons b l ih =>
    intro i j a a' v h1 hj h2
    have e : ∀ (y : α) (t : List α), flat rec (y :: t) = rec y ++ flat rec t := fun _ _ => rfl
    cases i with
    | zero =>
      simp at h1
      subst h1
      rw [Nat.zero_mul, Nat.zero_add, List.set_cons_zero, e, e, List.set_append_left _ _ (by rw [hs]; exact hj), h2]
    | succ i =>
      rw [List.set_cons_succ, e, e, List.set_append_right _ _ (by rw [hs, Nat.add_mul]; omega), hs, show (i + 1) * s + j - s = i * s + j by rw [Nat.add_mul]; omega, ih (by simpa using h1) hj h2]
/-- a store into a row of the call's own -/
theorem own_set {w : World} {base : Nat} {e : TypeId} {size n c g : Nat} {xs : List Value} (h : w.ownsRow base e size (.slice (some ⟨g, 0, none⟩) n c) n xs) (k : Nat) (u : Value) :
    (w.setCell ⟨g, k, none⟩ u).ownsRow base e size (.slice (some ⟨g, 0, none⟩) n c) n (xs.set k u) := by
  refine ⟨by rw [List.length_set]; exact h.1, ?_⟩
  rcases h.2 with ⟨h1, _⟩ | ⟨g', cap, cur, hv, hg, hh, hnc, hm, hsz, htk⟩
  · cases h1
  · injection hv with h1 h2 h3
    injection h1 with h1
    injection h1 with h1
    subst h1 h3
    have hb : Blk w g e cur := hh
    refine .inr ⟨g, c, cur.setIfInBounds k u, rfl, hg, hb.set_ k u, hnc, hm, by simpa using hsz, ?_⟩
    rw [Array.toList_setIfInBounds, List.take_set, htk]
theorem own_cell {w : World} {base : Nat} {e : TypeId} {size n c g : Nat} {xs : List Value} (h : w.ownsRow base e size (.slice (some ⟨g, 0, none⟩) n c) n xs) {k : Nat} {u : Value} (hk : xs[k]? = some u) : w.cell? ⟨g, k, none⟩ = some u ∧ w.frozen? ⟨g, k, none⟩ = false := by
  have := h.cells (g := g) rfl k u hk
  rw [addr_add, Nat.zero_add] at this
  refine ⟨this, ?_⟩
  rcases h.2 with ⟨h1, _⟩ | ⟨g', cap, cur, hv, hg, hh, _⟩
  · cases h1
  · injection hv with h1
    injection h1 with h1
    injection h1 with h1
    subst h1
    exact Blk.frozen (t := e) (cs := cur) hh k
theorem own_mono {w : World} {base base' : Nat} {e : TypeId} {size n : Nat} {v : Value} {xs : List Value} (h : w.ownsRow base e size v n xs) (hb : base' ≤ base) : w.ownsRow base' e size v n xs := by
  refine ⟨h.1, ?_⟩
  rcases h.2 with h2 | ⟨g, cap, cur, hv, hg, hr⟩
  · exact .inl h2
  · exact .inr ⟨g, cap, cur, hv, by omega, hr⟩
theorem own_far {w : World} {base : Nat} {e : TypeId} {size n : Nat} {v : Value} {xs : List Value} (h : w.ownsRow base e size v n xs) {p : Addr} (hp : v.ownBlock ≠ some p.block) (u : Value) : (w.setCell p u).ownsRow base e size v n xs :=
  own_keep h fun g hg => Below.heap_setCell w p u g (fun e => hp (by rw [← e]; exact hg))

/-- footprints -/
structure STF (F : Nat → Prop) (w : World) (A : Option Addr) (n c : Nat) (l : List ByteArray) : Prop where
  st : ST w A n c l
  blk : 0 < n → ∀ b off, A = some ⟨b, off, none⟩ → F b
theorem ST.keep {w w' : World} {A : Option Addr} {n c : Nat} {l : List ByteArray} (h : ST w A n c l) (hs : w.heap.size ≤ w'.heap.size) (hk : 0 < n → ∀ b off, A = some ⟨b, off, none⟩ → w'.heap[b]? = w.heap[b]?) : ST w' A n c l := by
  refine ⟨⟨h.sr.ln, h.sr.lc, fun hn => ?_⟩, h.sz, h.el⟩
  obtain ⟨b, off, h1, h2, h3⟩ := h.sr.el hn
  exact ⟨b, off, h1, by omega, fun i a hi j v hj => (World.cell?_of_block (w := w) (a := ⟨b, off + i * 1 + j, none⟩) (hk hn b off h1)).trans (h3 i a hi j v hj)⟩
theorem STF.keep {F G : Nat → Prop} {w w' : World} {A : Option Addr} {n c : Nat} {l : List ByteArray} (h : STF F w A n c l) (hs : w.heap.size ≤ w'.heap.size) (hk : ∀ b, F b → b < w.heap.size → G b ∧ w'.heap[b]? = w.heap[b]?) : STF G w' A n c l := by
  have hlt : 0 < n → ∀ b off, A = some ⟨b, off, none⟩ → b < w.heap.size := by
    intro hn b off e
    obtain ⟨b', off', h1, h2, _⟩ := h.st.sr.el hn
    rw [e] at h1
    cases h1
    exact h2
  exact ⟨h.st.keep hs fun hn b off e => (hk b (h.blk hn b off e) (hlt hn b off e)).2, fun hn b off e => (hk b (h.blk hn b off e) (hlt hn b off e)).1⟩
structure ORF (F : Nat → Prop) (w : World) (o : OC) (q : Od) : Prop where
  d : o.d = q.d
  st : STF F w o.A o.n o.c q.p
theorem ORF.keep {F G : Nat → Prop} {w w' : World} {o : OC} {q : Od} (h : ORF F w o q) (hs : w.heap.size ≤ w'.heap.size) (hk : ∀ b, F b → b < w.heap.size → G b ∧ w'.heap[b]? = w.heap[b]?) : ORF G w' o q := ⟨h.d, h.st.keep hs hk⟩
def KSF (F : Nat → Prop) (w : World) (A : Option Addr) (n c : Nat) (ks : List Od) : Prop :=
  ∃ os : List OC, SR 2 recO w A n c os ∧ n * 32 ≤ reach ∧ os.length = ks.length ∧ (0 < n → ∀ b off, A = some ⟨b, off, none⟩ → F b) ∧ ∀ (i : Nat) (o : OC) (q : Od), os[i]? = some o → ks[i]? = some q → ORF F w o q
theorem KSF.ks {F : Nat → Prop} {w : World} {A : Option Addr} {n c : Nat} {ks : List Od} (h : KSF F w A n c ks) : KS w A n c ks := by
  obtain ⟨os, h1, h2, h3, h4, h5⟩ := h
  exact ⟨os, h1, h2, h3, fun i o q hi hq => ⟨(h5 i o q hi hq).d, (h5 i o q hi hq).st.st⟩⟩
theorem KSF.keep {F G : Nat → Prop} {w w' : World} {A : Option Addr} {n c : Nat} {ks : List Od} (h : KSF F w A n c ks) (hs : w.heap.size ≤ w'.heap.size) (hk : ∀ b, F b → b < w.heap.size → G b ∧ w'.heap[b]? = w.heap[b]?) : KSF G w' A n c ks := by
  obtain ⟨os, h1, h2, h3, h4, h5⟩ := h
  have hlt : 0 < n → ∀ b off, A = some ⟨b, off, none⟩ → b < w.heap.size := by
    intro hn b off e
    obtain ⟨b', off', k1, k2, _⟩ := h1.el hn
    rw [e] at k1
    cases k1
    exact k2
  refine ⟨os, ⟨h1.ln, h1.lc, fun hn => ?_⟩, h2, h3, fun hn b off e => (hk b (h4 hn b off e) (hlt hn b off e)).1, fun i o q hi hq => (h5 i o q hi hq).keep hs hk⟩
  obtain ⟨b, off, k1, k2, k3⟩ := h1.el hn
  exact ⟨b, off, k1, by omega, fun i a hi j v hj => (World.cell?_of_block (w := w) (a := ⟨b, off + i * 2 + j, none⟩) (hk b (h4 hn b off k1) k2).2).trans (k3 i a hi j v hj)⟩
theorem KS.toF {w : World} {A : Option Addr} {n c : Nat} {ks : List Od} (h : KS w A n c ks) : KSF (fun b => b < w.heap.size) w A n c ks := by
  obtain ⟨os, h⟩ := h
  refine ⟨os, h.sr, h.sz, h.ln, fun hn b off e => ?_, fun i o q hi hq => ⟨(h.el i o q hi hq).d, (h.el i o q hi hq).st, fun hn b off e => ?_⟩⟩
  · obtain ⟨b', off', k1, k2, _⟩ := h.sr.el hn
    rw [e] at k1
    cases k1
    exact k2
  · obtain ⟨b', off', k1, k2, _⟩ := (h.el i o q hi hq).st.sr.el hn
    rw [e] at k1
    cases k1
    exact k2

/-- six stores -/
abbrev setR (w : World) (g : Nat) (a : RA) (R : Ro) : World :=
  (((((w.setCell ⟨g, 0, none⟩ (.string R.sp)).setCell ⟨g, 1, none⟩ (.slice a.KA a.kn a.kc)).setCell ⟨g, 2, none⟩ (.bool R.ha)).setCell ⟨g, 3, none⟩ (.int .i64 R.ep)).setCell ⟨g, 4, none⟩ (.int .i64 R.ver)).setCell ⟨g, 5, none⟩ (.slice a.CA a.cn a.cc)
theorem Blk.putR {w : World} {g : Nat} {t : TypeId} {a b : RA} {R S : Ro} (h : Blk w g t (rarr b S)) : Blk (setR w g a R) g t (rarr a R) := (((((h.set_ 0 _).set_ 1 _).set_ 2 _).set_ 3 _).set_ 4 _).set_ 5 _
theorem heap_setR (w : World) (g : Nat) (a : RA) (R : Ro) (b : Nat) (h : b ≠ g) : (setR w g a R).heap[b]? = w.heap[b]? := by
  unfold setR
  iterate 6 rw [Below.heap_setCell _ _ _ b h]
theorem size_setR (w : World) (g : Nat) (a : RA) (R : Ro) : (setR w g a R).heap.size = w.heap.size := by simp [setR, World.setCell]
theorem below_setR {B : Nat} {a0 w : World} (h : Below B a0 w) {g : Nat} (hB : B ≤ g) (a : RA) (R : Ro) : Below B a0 (setR w g a R) :=
  (((((h.setCell hB _).setCell hB _).setCell hB _).setCell hB _).setCell hB _).setCell hB _

theorem load_ro (g : Nat) (a : RA) (R : Ro) (W : World) (q : Blk W g 45 (rarr a R)) : (loadVar 45 ⟨g, 0, none⟩).run Tryz.prog W = .ok (rval a R) W := by
  have q0 := q.cell 0
  have q1 := q.cell 1
  have q2 := q.cell 2
  have q3 := q.cell 3
  have q4 := q.cell 4
  have q5 := q.cell 5
  simp at q0 q1 q2 q3 q4 q5
  simp [go_sem, q0, q1, q2, q3, q4, q5]
theorem results_ro {fn : Func} {p : Tmp} (h : fn.results = #[.cell p 45]) (tmps : Array Value) (g1 : Nat) (h1 : tmps[p]?.getD undef = .pointer (some ⟨g1, 0, none⟩)) (W : World) (a : RA) (R : Ro) (q : Blk W g1 45 (rarr a R)) :
    (results fn tmps).run Tryz.prog W = .ok (rval a R) W := by
  have := load_ro g1 a R W q
  simp [results, h, h1, asAddr, this]
theorem results_ro_err {fn : Func} {p u : Tmp} (h : fn.results = #[.cell p 45, .tmp u]) (tmps : Array Value) (g1 : Nat) (h1 : tmps.getD p undef = .pointer (some ⟨g1, 0, none⟩)) (e : Value) (h2 : tmps.getD u undef = e)
    (W : World) (a : RA) (R : Ro) (q : Blk W g1 45 (rarr a R)) : (results fn tmps).run Tryz.prog W = .ok (.tuple #[rval a R, e]) W := by
  rw [results_cell_tmp h, h1, h2]
  simp [asAddr, load_ro g1 a R W q]

/-- the state of copied's loop -/
structure Cpy (B : Nat) (w : World) (a : RA) (R : Ro) (A : Option Addr) (c : Nat) (os : List OC) (wr : World) : Prop where
  b0 : Blk wr w.heap.size 45 (rarr ⟨A, a.kn, c, a.CA, a.cn, a.cc⟩ R)
  b1 : Blk wr (w.heap.size + 1) 45 (rarr RA.zero Ro.zero)
  own : wr.ownsRow (w.heap.size + 2) 65 2 (.slice A a.kn c) a.kn (flat recO os)
  ln : os.length = a.kn
  el : ∀ (i : Nat) (o : OC) (q : Od), os[i]? = some o → R.ks[i]? = some q → ORF (fun b => (b < B ∨ w.heap.size + 2 ≤ b) ∧ (Value.slice A a.kn c).ownBlock ≠ some b) wr o q
  bel : Below w.heap.size w wr
theorem Cpy.step {B : Nat} {w wr w1 : World} {a : RA} {R : Ro} {A : Option Addr} {c : Nat} {os : List OC} (h : Cpy B w a R A c os wr) (hb : Below wr.heap.size wr w1) : Cpy B w a R A c os w1 :=
  ⟨h.b0.step hb, h.b1.step hb, own_step h.own hb, h.ln, fun i o q hi hq => (h.el i o q hi hq).keep hb.size fun b hF hlt => ⟨hF, hb.block b hlt⟩, h.bel.step' hb⟩
theorem Cpy.next {B : Nat} {w wr : World} {a : RA} {R : Ro} {g c : Nat} {os : List OC} (h : Cpy B w a R (some ⟨g, 0, none⟩) c os wr) {i : Nat} {o : OC} {q : Od} (hi : os[i]? = some o) (hq : R.ks[i]? = some q) {A : Option Addr} {n k : Nat}
    (hst : STF (fun b => w.heap.size + 2 ≤ b ∧ b ≠ g) wr A n k q.p) : Cpy B w a R (some ⟨g, 0, none⟩) c (os.set i ⟨A, n, k, o.d⟩) (wr.setCell ⟨g, i * 2, none⟩ (.slice A n k)) := by
  have hg : w.heap.size + 2 ≤ g := own_ge h.own g rfl
  have hown := own_set h.own (i * 2) (.slice A n k)
  rw [show i * 2 = i * 2 + 0 by rfl, flat_setj recO_length hi (by omega) (a' := ⟨A, n, k, o.d⟩) rfl] at hown
  refine ⟨h.b0.far (by show w.heap.size ≠ g; omega) _, h.b1.far (by show w.heap.size + 1 ≠ g; omega) _, hown, by rw [List.length_set]; exact h.ln, fun j o' q' hj hq' => ?_, h.bel.setCell (by show w.heap.size ≤ g; omega) _⟩
  rw [List.getElem?_set] at hj
  split at hj
  · rename_i e
    subst e
    split at hj
    · injection hj with hj
      subst hj
      rw [hq] at hq'
      injection hq' with hq'
      subst hq'
      exact ⟨(h.el i o q hi hq).d, hst.keep (by simp [World.setCell]) fun b hF _ => ⟨⟨.inr hF.1, by simp [Value.ownBlock]; exact fun e => hF.2 e.symm⟩, Below.heap_setCell _ _ _ b hF.2⟩⟩
    · cases hj
  · exact (h.el j o' q' hj hq').keep (by simp [World.setCell]) fun b hF _ => ⟨hF, Below.heap_setCell _ _ _ b fun e => hF.2 (by simp [Value.ownBlock]; exact e.symm)⟩

/-- what a copy of routes is: the chunks lie in a row of its own -/
def CopOk (B : Nat) (w : World) (R : Ro) (e : Ending) (w' : World) : Prop :=
  ∃ a : RA, e = .returned (rval a R) ∧ KSF (fun b => (b < B ∨ w.heap.size ≤ b) ∧ (Value.slice a.CA a.cn a.cc).ownBlock ≠ some b) w' a.KA a.kn a.kc R.ks ∧ w'.ownsRow w.heap.size 58 5 (.slice a.CA a.cn a.cc) a.cn (flat recC R.cs) ∧ a.cn = R.cs.length ∧ a.cn * 56 ≤ reach ∧ Below w.heap.size w w'

end Go.Proofs.YtblepmmibhphhaaGreatDoor

namespace Go.Proofs.YtblepmmibhphhaaGreatDoor
open Go.RowKit

/-- routes that were copied, with the next version -/
def Ro.nx (R : Ro) : Ro := ⟨R.sp, R.ks, R.ha, R.ep, Go.Proofs.YtblepmmibhphhaaGreatDoor.nx R.ver, R.cs⟩
end Go.Proofs.YtblepmmibhphhaaGreatDoor

namespace Go.Proofs.YtblepmmibhphhaaGreatDoor
open Go.RowKit

/-- a row of the call's own, with its spare cells -/
theorem own_blk {w : World} {base : Nat} {e : TypeId} {s n c g : Nat} {xs : List Value} (h : w.ownsRow base e s (.slice (some ⟨g, 0, none⟩) n c) n xs) :
    ∃ R : List Value, Blk w g e (xs ++ R).toArray ∧ (xs ++ R).length = c * s ∧ n ≤ c ∧ c ≤ maxLen ∧ base ≤ g := by
  rcases h.2 with ⟨h1, _⟩ | ⟨g', cap, cur, hv, hg, hh, hnc, hm, hsz, htk⟩
  · cases h1
  · injection hv with h1 h2 h3
    injection h1 with h1
    injection h1 with h1
    subst h1 h3
    refine ⟨cur.toList.drop (n * s), ?_, ?_, hnc, hm, hg⟩
    · rw [← htk, List.take_append_drop]
      exact hh
    · rw [← htk, List.take_append_drop]
      simpa using hsz
theorem blk_own {w : World} {base : Nat} {e : TypeId} {s n c g : Nat} {xs R : List Value} (h : Blk w g e (xs ++ R).toArray) (hx : xs.length = n * s) (hl : (xs ++ R).length = c * s) (hnc : n ≤ c) (hm : c ≤ maxLen) (hg : base ≤ g) :
    w.ownsRow base e s (.slice (some ⟨g, 0, none⟩) n c) n xs :=
  ⟨hx, .inr ⟨g, c, (xs ++ R).toArray, rfl, hg, h, hnc, hm, by simpa using hl, by rw [List.toList_toArray, ← hx, List.take_left]⟩⟩

theorem run_copy_rec {P : Program} (w : World) (dT sT ty elem : TypeId) (b o dLen dCap : Nat) (a : Addr) (sLen sCap s : Nat) (cs : List Value)
    (hu : P.underlying dT = some (.slice elem)) (hs : (P.info? elem).map (·.size) = some s) (hn : cs.length = Nat.min sLen dLen * s)
    (hsrc : ∀ j v, cs[j]? = some v → w.cell? (a.add j) = some v) (hc : ∀ j, j < cs.length → (w.cell? ⟨b, o + j, none⟩).isSome = true) (hf : ∀ j, j < cs.length → w.frozen? ⟨b, o + j, none⟩ = false) (h1 : ∀ v ∈ cs, v.oneCell' = true) :
    (Builtin.copy_ #[dT, sT] ty #[.slice (some ⟨b, o, none⟩) dLen dCap, .slice (some a) sLen sCap]).run P w = .ok (goInt (Nat.min sLen dLen)) (w.setCells b o cs) := by
  have hl := run_loadCells_list (P := P) w a cs hsrc
  have hst := run_storeCells_cells (P := P) b o cs 0 w (by simpa using hc) (by simpa using hf) h1
  cases hq : P.info? elem with
  | none => simp [hq] at hs
  | some i =>
    have hi : i.size = s := by simpa [hq] using hs
    simp [Builtin.copy_, run_underlying hu, Builtin.lenOf, Builtin.firstCells, sizeOf, typeInfo, hq, hi, ← hn, hl, hst]

theorem Blk.shape {w : World} {g : Nat} {t : TypeId} {cs : Array Value} (h : Blk w g t cs) : w.shape? g = some (t, cs.size) := by
  unfold Blk at h
  unfold World.shape?
  rw [h]

/-- what Insert hands back -/
def InsOk (lo g n : Nat) (cs : List Ch) (w : World) (e : Ending) (w' : World) : Prop :=
  ∃ A c, e = .returned (.slice A (n + 1) c) ∧ w'.ownsRow lo 58 5 (.slice A (n + 1) c) (n + 1) (flat recC cs) ∧ w.grownBy w' (some g)

end Go.Proofs.YtblepmmibhphhaaGreatDoor

namespace Go.Proofs.YtblepmmibhphhaaGreatDoor
open Go.RowKit

theorem eraseC_list (cs : List Ch) (R : List Value) (i : Nat) (hi : i < cs.length) : setList (setList (flat recC cs ++ R) (i * 5) (flat recC (cs.drop (i + 1)))) ((cs.length - 1) * 5) (recC Ch.zero) = flat recC (cs.eraseIdx i) ++ (recC Ch.zero ++ R) := by
  have hl := flat_length recC_length cs
  have hd := flat_length recC_length (cs.drop (i + 1))
  rw [List.length_drop] at hd
  have e1 : setList (flat recC cs ++ R) (i * 5) (flat recC (cs.drop (i + 1))) = flat recC (cs.eraseIdx i) ++ (flat recC (cs.drop (cs.length - 1)) ++ R) := by
    rw [setList_eq _ _ _ (by rw [List.length_append]; omega), List.take_append_of_le_length (by omega), flat_take recC_length, hd, show i * 5 + (cs.length - (i + 1)) * 5 = (cs.length - 1) * 5 by omega, List.drop_append_of_le_length (by omega), flat_drop recC_length, List.eraseIdx_eq_take_drop_succ, flat_append]
  have hel : (flat recC (cs.eraseIdx i)).length = (cs.length - 1) * 5 := by rw [flat_length recC_length, List.length_eraseIdx_of_lt hi]
  have hd2 := flat_length recC_length (cs.drop (cs.length - 1))
  rw [List.length_drop] at hd2
  have h5 : (recC Ch.zero).length = 5 := rfl
  have hd3 : (flat recC (cs.drop (cs.length - 1))).length = 5 := by omega
  rw [e1, setList_eq _ _ _ (by rw [List.length_append, List.length_append, hel, hd3, h5]; omega), ← hel, List.take_left, h5, List.append_assoc]
  congr 2
  rw [← List.append_assoc, show (flat recC (cs.eraseIdx i)).length + 5 = (flat recC (cs.eraseIdx i) ++ flat recC (cs.drop (cs.length - 1))).length by rw [List.length_append, hd3], List.drop_left]

set_option maxRecDepth 100000 in
theorem zero_chunk : ∀ w, (zeroValue 58).run Tryz.prog w = .ok (.agg (recC Ch.zero).toArray) w := fun _ => rfl

/-- what Delete leaves -/
def DelC (lo g n c : Nat) (cs : List Ch) (w : World) (e : Ending) (w' : World) : Prop :=
  e = .returned (.slice (some ⟨g, 0, none⟩) (n - 1) c) ∧ w'.ownsRow lo 58 5 (.slice (some ⟨g, 0, none⟩) (n - 1) c) (n - 1) (flat recC cs) ∧ But g w w'

end Go.Proofs.YtblepmmibhphhaaGreatDoor

namespace Go.Proofs.YtblepmmibhphhaaGreatDoor
open Go.RowKit

theorem KS.toB {w w' : World} {A : Option Addr} {n c : Nat} {ks : List Od} (h : KS w A n c ks) (hb : Below w.heap.size w w') : KSF (fun b => b < w.heap.size) w' A n c ks :=
  h.toF.keep hb.size fun b hF hlt => ⟨hF, hb.block b hlt⟩
theorem KSF.lt {F : Nat → Prop} {w : World} {A : Option Addr} {n c : Nat} {ks : List Od} (h : KSF F w A n c ks) : KSF (fun b => F b ∧ b < w.heap.size) w A n c ks :=
  h.keep (Nat.le_refl _) fun _ hF hlt => ⟨⟨hF, hlt⟩, rfl⟩

/-- routes in the variable that lies in block N; their chunks lie in a row of the call's own; blocks from hi on are others -/
structure Vr (B lo hi N : Nat) (w : World) (a : RA) (R : Ro) (cs : List Ch) (wr : World) : Prop where
  b0 : Blk wr N 45 (rarr a R)
  own : wr.ownsRow lo 58 5 (.slice a.CA a.cn a.cc) a.cn (flat recC cs)
  og : ∀ g, (Value.slice a.CA a.cn a.cc).ownBlock = some g → g < hi
  ks : KSF (fun b => ((b < B ∨ lo ≤ b) ∧ b < hi) ∧ (Value.slice a.CA a.cn a.cc).ownBlock ≠ some b) wr a.KA a.kn a.kc R.ks
  ln : a.cn = cs.length
  sz : a.cn * 56 ≤ reach
  bel : Below B w wr
  hn : B ≤ N ∧ N < lo ∧ lo ≤ hi ∧ hi ≤ wr.heap.size
section
variable {B lo hi N : Nat} {w wr w1 : World} {a : RA} {R : Ro} {cs : List Ch}
theorem Vr.step (h : Vr B lo hi N w a R cs wr) (hb : Below wr.heap.size wr w1) : Vr B lo hi N w a R cs w1 :=
  ⟨h.b0.step hb, own_step h.own hb, h.og, h.ks.keep hb.size fun b hF hlt => ⟨hF, hb.block b hlt⟩, h.ln, h.sz, h.bel.trans (hb.mono (by have := h.hn; omega)), ⟨h.hn.1, h.hn.2.1, h.hn.2.2.1, Nat.le_trans h.hn.2.2.2 hb.size⟩⟩
theorem Vr.of {a0 : RA} {R0 : Ro} (h0 : Blk w1 N 45 (rarr a0 R0)) (hN : B ≤ N) (hNl : N < lo)
    (hks : KSF (fun b => (b < B ∨ lo ≤ b) ∧ (Value.slice a.CA a.cn a.cc).ownBlock ≠ some b) w1 a.KA a.kn a.kc R.ks) (hown : w1.ownsRow lo 58 5 (.slice a.CA a.cn a.cc) a.cn (flat recC R.cs))
    (hln : a.cn = R.cs.length) (hsz : a.cn * 56 ≤ reach) (hlo : lo ≤ w1.heap.size) (hbel : Below B w w1) : Vr B lo w1.heap.size N w a R R.cs (setR w1 N a R) := by
  have hge := own_ge hown
  refine ⟨h0.putR, own_keep hown fun g hg => heap_setR _ _ _ _ g (by have := hge g hg; omega), fun g hg => own_lt hown hg, hks.lt.keep (by rw [size_setR]; exact Nat.le_refl _) fun b hF hlt => ⟨⟨⟨hF.1.1, hF.2⟩, hF.1.2⟩, heap_setR _ _ _ _ b (by have := hF.1.1; omega)⟩, hln, hsz, below_setR hbel hN _ _, ⟨hN, hNl, hlo, by rw [size_setR]; exact Nat.le_refl _⟩⟩
/-- a store into a chunk -/
theorem Vr.put {g : Nat} (h : Vr B lo hi N w a R cs wr) (hg : a.CA = some ⟨g, 0, none⟩) {i j : Nat} {c c' : Ch} {v : Value} (hi' : cs[i]? = some c) (hj : j < 5) (he : (recC c).set j v = recC c') : Vr B lo hi N w a R (cs.set i c') (wr.setCell ⟨g, i * 5 + j, none⟩ v) := by
  obtain ⟨KA, kn, kc, CA, cn, cc⟩ := a
  simp only at hg
  subst hg
  have hge := own_ge h.own g rfl
  have ho := own_set h.own (i * 5 + j) v
  rw [flat_setj recC_length hi' hj he] at ho
  refine ⟨h.b0.far (by show N ≠ g; have := h.hn; omega) _, ho, h.og, h.ks.keep (by simp [World.setCell]) fun b hF _ => ⟨hF, Below.heap_setCell _ _ _ b (by show b ≠ g; intro e; exact hF.2 (by rw [e]; rfl))⟩, by rw [List.length_set]; exact h.ln, h.sz, h.bel.setCell (by show B ≤ g; have := h.hn; omega) _, ?_⟩
  have := h.hn
  simpa using this
/-- a store into another block -/
theorem Vr.far (h : Vr B lo hi N w a R cs wr) {p : Addr} (hp : hi ≤ p.block ∨ (B ≤ p.block ∧ p.block < lo ∧ p.block ≠ N)) (v : Value) : Vr B lo hi N w a R cs (wr.setCell p v) := by
  have hn := h.hn
  refine ⟨h.b0.far (by omega) _, own_far h.own (fun e => by have := h.og _ e; have := own_ge h.own _ e; omega) _, h.og, h.ks.keep (by simp [World.setCell]) fun b hF _ => ⟨hF, Below.heap_setCell _ _ _ b (by have := hF.1; omega)⟩, h.ln, h.sz, h.bel.setCell (by omega) _, by simpa using hn⟩
theorem Vr.get (h : Vr B lo hi N w a R cs wr) {i : Nat} {c : Ch} (hi' : cs[i]? = some c) : ∃ g, a.CA = some ⟨g, 0, none⟩ ∧ lo ≤ g ∧ g < hi ∧ ∀ j v, (recC c)[j]? = some v → wr.cell? ⟨g, i * 5 + j, none⟩ = some v ∧ wr.frozen? ⟨g, i * 5 + j, none⟩ = false := by
  obtain ⟨KA, kn, kc, CA, cn, cc⟩ := a
  have hl : i < cs.length := (List.getElem?_eq_some_iff.1 hi').1
  have hln : cn = cs.length := h.ln
  obtain ⟨g, cap, hv, hge, _⟩ := h.own.form (by show 0 < cn; omega)
  have hv2 : CA = some ⟨g, 0, none⟩ := by injection hv
  subst hv2
  exact ⟨g, rfl, hge, h.og g rfl, fun j v hv => own_cell h.own (flat_get recC_length hi' hv)⟩
end

/-- what is left at the end of a change -/
theorem change_end {B lo g1 : Nat} {w wr : World} {a b : RA} {R S : Ro} (hB : B = w.heap.size) (h1 : Blk wr g1 45 (rarr b S)) (hg : B ≤ g1) (hgl : g1 < lo) (hsp : R.sp.size ≤ reach)
    (hks : KSF (fun b => b < B ∨ lo ≤ b) wr a.KA a.kn a.kc R.ks) (hown : wr.ownsRow lo 58 5 (.slice a.CA a.cn a.cc) a.cn (flat recC R.cs)) (hln : a.cn = R.cs.length) (hsz : a.cn * 56 ≤ reach) (hbel : Below B w wr) :
    RouOk (R, 0) w (.returned (.tuple #[rval a R, .int .i64 0])) (setR wr g1 a R) ∧ Blk (setR wr g1 a R) g1 45 (rarr a R) := by
  subst hB
  have ho := own_keep hown (w' := setR wr g1 a R) fun g hg => heap_setR _ _ _ _ g (by have := own_ge hown g hg; omega)
  obtain ⟨A', c', hv, hsr⟩ := SR.of_own recC_length ho hln.symm
  injection hv with e1 e2 e3
  subst e1 e3
  refine ⟨⟨a, rfl, ⟨hsp, (hks.keep (G := fun _ => True) (by rw [size_setR]; exact Nat.le_refl _) fun b hF _ => ⟨trivial, heap_setR _ _ _ _ b (by omega)⟩).ks, ⟨hsr, hsz⟩⟩, below_setR hbel hg _ _⟩, h1.putR⟩
theorem change_err {g1 : Nat} {w wr : World} {b : RA} {S : Ro} (n : Int) (h1 : Blk wr g1 45 (rarr b S)) (hg : w.heap.size ≤ g1) (hbel : Below w.heap.size w wr) :
    RouOk (Ro.zero, n) w (.returned (.tuple #[rval RA.zero Ro.zero, .int .i64 n])) (setR wr g1 RA.zero Ro.zero) ∧ Blk (setR wr g1 RA.zero Ro.zero) g1 45 (rarr RA.zero Ro.zero) :=
  ⟨⟨RA.zero, rfl, RR.zero, below_setR hbel hg _ _⟩, h1.putR⟩
theorem RouOk.eq {r s : Ro × Int} {w w' : World} {e : Ending} (h : r = s) (k : RouOk s w e w') : RouOk r w e w' := by rw [h]; exact k
theorem set_two {cs : List Ch} {i : Nat} {c d : Ch} : (cs.set i c).set i d = cs.set i d := by simp

end Go.Proofs.YtblepmmibhphhaaGreatDoor

namespace Go.Proofs.YtblepmmibhphhaaGreatDoor
open Go.RowKit

theorem blk_ro {w : World} {g : Nat} {t : TypeId} {a : RA} {R : Ro} (h : Blk w g t (rarr a R)) : w.cell? ⟨g, 0, none⟩ = some (.string R.sp) ∧ w.cell? ⟨g, 1, none⟩ = some (.slice a.KA a.kn a.kc) ∧ w.cell? ⟨g, 2, none⟩ = some (.bool R.ha) ∧ w.cell? ⟨g, 3, none⟩ = some (.int .i64 R.ep) ∧ w.cell? ⟨g, 4, none⟩ = some (.int .i64 R.ver) ∧ w.cell? ⟨g, 5, none⟩ = some (.slice a.CA a.cn a.cc) ∧ ∀ i, w.frozen? ⟨g, i, none⟩ = false := by
  refine ⟨?_, ?_, ?_, ?_, ?_, ?_, h.frozen⟩ <;> rw [h.cell] <;> rfl

end Go.Proofs.YtblepmmibhphhaaGreatDoor


/- Chunks: the plain law. Valid routes, and what the changes keep. · The contract of chunks.Version. · The contract of few. · A store of routes into a block of zeroed routes does not touch routes whose paths are valid. · The plain law of ChunksBack: Join undoes Split. · The plain law of ChunksKeeps: a change of valid routes gives valid ones and keeps the shards of other keys. -/
namespace Go.Proofs.YtblepmmibhphhaaGreatDoor
open Go.RowKit

abbrev BK := List UInt8
theorem bl_nil (x : BK) : Op.bytesLess x [] = false := by cases x <;> rfl
theorem bl_irr : ∀ x : BK, Op.bytesLess x x = false
  | [] => rfl
  | a :: r => by simp [Op.bytesLess, bl_irr r]
theorem bl_cons (a b : UInt8) (x y : BK) : Op.bytesLess (a :: x) (b :: y) = true ↔ a.toNat < b.toNat ∨ (a = b ∧ Op.bytesLess x y = true) := by
  simp [Op.bytesLess, UInt8.lt_iff_toNat_lt]
theorem bl_tr : ∀ {x y z : BK}, Op.bytesLess x y = true → Op.bytesLess y z = true → Op.bytesLess x z = true
  | _, _, [], _, h => by rw [bl_nil] at h; cases h
  | _, [], _ :: _, h, _ => by rw [bl_nil] at h; cases h
  | [], _ :: _, _ :: _, _, _ => rfl
  | a :: x, b :: y, c :: z, h, k => by
    rw [bl_cons] at h k ⊢
    rcases h with h | ⟨rfl, h⟩ <;> rcases k with k | ⟨rfl, k⟩
    · exact .inl (by omega)
    · exact .inl h
    · exact .inl k
    · exact .inr ⟨rfl, bl_tr h k⟩
theorem bl_tri : ∀ (x y : BK), Op.bytesLess x y = true ∨ x = y ∨ Op.bytesLess y x = true
  | [], [] => .inr (.inl rfl)
  | [], _ :: _ => .inl rfl
  | _ :: _, [] => .inr (.inr rfl)
  | a :: x, b :: y => by
    rw [bl_cons, bl_cons]
    rcases Nat.lt_trichotomy a.toNat b.toNat with h | h | h
    · exact .inl (.inl h)
    · have hab : a = b := UInt8.toNat_inj.1 h
      subst hab
      rcases bl_tri x y with h | rfl | h
      · exact .inl (.inr ⟨rfl, h⟩)
      · exact .inr (.inl rfl)
      · exact .inr (.inr (.inr ⟨rfl, h⟩))
    · exact .inr (.inr (.inl h))
/-- x is not above y, y is below z -/
theorem bl_le_lt {x y z : BK} (h : Op.bytesLess y x = false) (k : Op.bytesLess y z = true) : Op.bytesLess x z = true := by
  rcases bl_tri x y with h1 | rfl | h1
  · exact bl_tr h1 k
  · exact k
  · rw [h] at h1; cases h1
theorem bl_lt_le {x y z : BK} (h : Op.bytesLess x y = true) (k : Op.bytesLess z y = false) : Op.bytesLess x z = true := by
  rcases bl_tri y z with h1 | rfl | h1
  · exact bl_tr h h1
  · exact h
  · rw [k] at h1; cases h1
theorem bl_asym {x y : BK} (h : Op.bytesLess x y = true) : Op.bytesLess y x = false := by
  cases h1 : Op.bytesLess y x
  · rfl
  · have := bl_tr h h1; rw [bl_irr] at this; cases this

/-- the end of a chunk: none is no bound -/
def hiO (c : Ch) : Option BK := if c.hi.toList = [] then none else some c.hi.toList
def ltO (x : BK) : Option BK → Prop
  | none => True
  | some y => Op.bytesLess x y = true
/-- chunks that follow each other from a to b -/
def Cn : Option BK → Option BK → List Ch → Prop
  | a, b, [] => a = b
  | a, b, c :: r => a = some c.lo.toList ∧ ltO c.lo.toList (hiO c) ∧ Cn (hiO c) b r
theorem Cn.app : ∀ {l m : List Ch} {a b c : Option BK}, Cn a b l → Cn b c m → Cn a c (l ++ m)
  | [], _, _, _, _, rfl, k => k
  | _ :: _, _, _, _, _, ⟨h1, h2, h3⟩, k => ⟨h1, h2, Cn.app h3 k⟩
theorem Cn.split : ∀ {l m : List Ch} {a c : Option BK}, Cn a c (l ++ m) → ∃ b, Cn a b l ∧ Cn b c m
  | [], _, a, _, h => ⟨a, rfl, h⟩
  | _ :: _, _, _, _, ⟨h1, h2, h3⟩ => by
    obtain ⟨b, k1, k2⟩ := Cn.split h3
    exact ⟨b, ⟨h1, h2, k1⟩, k2⟩
theorem inB_iff (key : ByteArray) (c : Ch) : inB key c = true ↔ Op.bytesLess key.toList c.lo.toList = false ∧ ltO key.toList (hiO c) := by
  unfold inB hiO
  by_cases h : c.hi.toList = []
  · simp [h, ltO]
  · simp [h, ltO]
/-- every key from a on has a chunk -/
theorem Cn.ex (key : ByteArray) : ∀ {l : List Ch} {a : BK} {b : Option BK}, Cn (some a) b l → Op.bytesLess key.toList a = false → ltO key.toList b → ∃ c ∈ l, inB key c = true
  | [], a, b, h, h1, h2 => by
    have h : some a = b := h
    subst h
    simp only [ltO] at h2
    rw [h1] at h2
    cases h2
  | c :: r, a, b, ⟨e1, e2, e3⟩, h1, h2 => by
    injection e1 with e1
    subst e1
    by_cases hk : ltO key.toList (hiO c)
    · exact ⟨c, List.mem_cons_self, (inB_iff key c).2 ⟨h1, hk⟩⟩
    · cases ho : hiO c with
      | none => rw [ho] at hk; exact absurd trivial hk
      | some y =>
        rw [ho] at hk e3
        obtain ⟨d, m1, m2⟩ := Cn.ex key e3 (by simpa [ltO] using hk) h2
        exact ⟨d, List.mem_cons_of_mem _ m1, m2⟩
theorem Cn.ge : ∀ {l : List Ch} {a : BK} {b : Option BK}, Cn (some a) b l → ∀ c ∈ l, Op.bytesLess c.lo.toList a = false
  | c :: r, a, b, ⟨e1, e2, e3⟩, d, hd => by
    injection e1 with e1
    subst e1
    rcases List.mem_cons.1 hd with rfl | hd
    · exact bl_irr _
    · cases ho : hiO c with
      | none =>
        rw [ho] at e3
        cases r with
        | nil => cases hd
        | cons x r => cases e3.1
      | some y =>
        rw [ho] at e2 e3
        have := Cn.ge e3 d hd
        exact bl_asym (bl_lt_le e2 this)
/-- a key has one chunk -/
theorem Cn.un (key : ByteArray) : ∀ {l : List Ch} {a b : Option BK}, Cn a b l → ∀ {i j : Nat} {c d : Ch}, l[i]? = some c → l[j]? = some d → inB key c = true → inB key d = true → i = j := by
  have key1 : ∀ {r : List Ch} {b : Option BK} {c d : Ch}, Cn (hiO c) b r → d ∈ r → inB key c = true → inB key d = true → False := by
    intro r b c d h hd hc hk
    rw [inB_iff] at hc hk
    cases ho : hiO c with
    | none =>
      rw [ho] at h
      cases r with
      | nil => cases hd
      | cons x r => cases h.1
    | some y =>
      rw [ho] at h hc
      have := bl_lt_le hc.2 (Cn.ge h d hd)
      rw [hk.1] at this
      cases this
  intro l
  induction l with
  | nil => intro a b _ i j c d h; simp at h
  | cons x r ih =>
    intro a b ⟨e1, e2, e3⟩ i j c d hi hj hc hd
    cases i with
    | zero =>
      cases j with
      | zero => rfl
      | succ j =>
        simp at hi hj
        subst hi
        exact (key1 e3 (List.mem_of_getElem? hj) hc hd).elim
    | succ i =>
      cases j with
      | zero =>
        simp at hi hj
        subst hj
        exact (key1 e3 (List.mem_of_getElem? hi) hd hc).elim
      | succ j =>
        simp at hi hj
        rw [ih e3 hi hj hc hd]
theorem Cn.lt : ∀ {l : List Ch} {a b : Option BK}, Cn a b l → ∀ c ∈ l, ltO c.lo.toList (hiO c)
  | _ :: _, _, _, ⟨_, e2, e3⟩, d, hd => by
    rcases List.mem_cons.1 hd with rfl | hd
    · exact e2
    · exact Cn.lt e3 d hd
theorem begB_in {key : ByteArray} {c : Ch} (h : begB key c = true) (hl : ltO c.lo.toList (hiO c)) : inB key c = true := by
  unfold begB at h
  have h := (beq_iff_eq.1 h)
  rw [inB_iff, ← h]
  exact ⟨bl_irr _, hl⟩

/-- endsB and linkB together: the chunks follow each other from the start to the end -/
theorem hiO_nil {c : Ch} (h : c.hi.toList = []) : hiO c = none := by rw [hiO, if_pos h]
theorem hiO_some {c : Ch} (h : c.hi.toList ≠ []) : hiO c = some c.hi.toList := by rw [hiO, if_neg h]
theorem Cn.of_link : ∀ {l : List Ch} {c : Ch}, linkB (c :: l) = true → (((c :: l).getLast?.map (·.hi.toList)) == some []) = true → Cn (some c.lo.toList) none (c :: l)
  | [], c, _, h => by
    have h : c.hi.toList = [] := by simpa using h
    exact ⟨rfl, by rw [hiO_nil h]; trivial, hiO_nil h⟩
  | d :: r, c, h, h' => by
    rw [linkB] at h
    simp only [Bool.and_eq_true, Bool.not_eq_true', Bool.or_eq_false_iff, beq_iff_eq, beq_eq_false_iff_ne] at h
    obtain ⟨⟨h1, h2, h3⟩, h4⟩ := h
    have hlt : Op.bytesLess c.lo.toList d.lo.toList = true := by
      rcases bl_tri c.lo.toList d.lo.toList with h | h | h
      · exact h
      · exact absurd h.symm h3
      · rw [h2] at h; cases h
    have hne : c.hi.toList ≠ [] := by
      intro h
      rw [← h1] at h
      rw [h, bl_nil] at hlt
      cases hlt
    have := Cn.of_link h4 (by simpa using h')
    exact ⟨rfl, by rw [hiO_some hne, ← h1]; exact hlt, by rw [hiO_some hne, ← h1]; exact this⟩
theorem Cn.to_link : ∀ {l : List Ch} {a : Option BK} {c : Ch}, Cn a none (c :: l) → linkB (c :: l) = true ∧ (((c :: l).getLast?.map (·.hi.toList)) == some []) = true
  | [], _, c, ⟨_, _, h⟩ => by
    have h : hiO c = none := h
    refine ⟨rfl, ?_⟩
    by_cases hc : c.hi.toList = []
    · simp [hc]
    · rw [hiO_some hc] at h; cases h
  | d :: r, a, c, ⟨_, h2, h3⟩ => by
    obtain ⟨k1, k2⟩ := Cn.to_link h3
    have h4 := h3.1
    refine ⟨?_, by simpa using k2⟩
    by_cases hc : c.hi.toList = []
    · rw [hiO_nil hc] at h4; cases h4
    · rw [hiO_some hc] at h4 h2
      injection h4 with h4
      rw [h4] at h2
      have h2 : Op.bytesLess c.lo.toList d.lo.toList = true := h2
      rw [linkB, k1, bl_asym h2, h4]
      have hne : (d.lo.toList == c.lo.toList) = false := by
        rw [beq_eq_false_iff_ne]
        intro h
        rw [h, bl_irr] at h2
        cases h2
      simp [hne]
theorem ends_link (l : List Ch) : (endsB l = true ∧ linkB l = true) ↔ Cn (some []) none l := by
  cases l with
  | nil => exact ⟨fun h => (by cases h.1), fun h => (by cases h)⟩
  | cons c r =>
    constructor
    · rintro ⟨h1, h2⟩
      rw [endsB, Bool.and_eq_true] at h1
      have := Cn.of_link h2 h1.2
      rw [beq_iff_eq.1 h1.1] at this
      exact this
    · intro h
      have h1 := Cn.to_link h
      have h2 := h.1
      injection h2 with h2
      refine ⟨?_, h1.1⟩
      rw [endsB, ← h2, h1.2]
      rfl

/-- valid routes -/
structure VR (R : Ro) : Prop where
  nm : nameB R.sp = true
  ke : keyE R.ks R.ha = 0
  ln : R.cs.length ≤ 64
  ep : 1 ≤ R.ep
  ver : 1 ≤ R.ver
  good : ∀ c ∈ R.cs, 0 ≤ c.sh ∧ c.sh < 8 ∧ 1 ≤ c.ver ∧ c.ver ≤ R.ver
  cn : Cn (some []) none R.cs
theorem badC_iff (v : Int) (c : Ch) : badC v c = false ↔ 0 ≤ c.sh ∧ c.sh < 8 ∧ 1 ≤ c.ver ∧ c.ver ≤ v := by
  unfold badC
  simp only [Bool.or_eq_false_iff, decide_eq_false_iff_not]
  omega
theorem routE_iff (R : Ro) : routE R = 0 ↔ VR R := by
  unfold routE
  constructor
  · intro h
    split at h
    · cases h
    split at h
    · rename_i h1 h2; exact absurd h h2
    split at h
    · cases h
    split at h
    · cases h
    split at h
    · cases h
    split at h
    · cases h
    split at h
    · cases h
    rename_i h1 h2 h3 h4 h5 h6 h7
    refine ⟨by simpa using h1, by simpa using h2, by omega, by omega, by omega, fun c hc => ?_, (ends_link _).1 ⟨by simpa using h6, by simpa using h7⟩⟩
    rw [← badC_iff]
    have h5 : R.cs.any (badC R.ver) = false := by simpa using h5
    exact List.any_eq_false.1 h5 c hc |> (by simpa using ·)
  · rintro ⟨h1, h2, h3, h4, h5, h6, h7⟩
    obtain ⟨k1, k2⟩ := (ends_link _).2 h7
    have h8 : R.cs.any (badC R.ver) = false := List.any_eq_false.2 fun c hc => by simpa using (badC_iff _ _).2 (h6 c hc)
    rw [if_neg (by rw [h1]; simp), if_neg (by simpa using h2), if_neg (by omega), if_neg (by omega), if_neg (by rw [h8]; simp), if_neg (by rw [k1]; simp), if_neg (by rw [k2]; simp)]

/-- a piece of a chain is replaced by another with the same ends -/
theorem Cn.piece {l : List Ch} {a b : Option BK} (h : Cn a b l) {i n : Nat} {new : List Ch} (hr : ∀ p q, Cn p q ((l.drop i).take n) → Cn p q new) : Cn a b (repl l i n new) := by
  rw [← List.take_append_drop i l, ← List.take_append_drop n (l.drop i), List.drop_drop] at h
  obtain ⟨p, h1, h2⟩ := h.split
  obtain ⟨q, h2, h3⟩ := h2.split
  unfold repl
  exact (h1.app (hr p q h2)).app h3
theorem take_one {l : List Ch} {i : Nat} {c : Ch} (h : l[i]? = some c) : (l.drop i).take 1 = [c] := by rw [drop_of h]; rfl
theorem take_two {l : List Ch} {i : Nat} {c d : Ch} (h : l[i]? = some c) (h' : l[i + 1]? = some d) : (l.drop i).take 2 = [c, d] := by rw [drop_of h, drop_of h']; rfl
theorem mem_repl {l : List Ch} {i n : Nat} {new : List Ch} {c : Ch} (h : c ∈ repl l i n new) : c ∈ l ∨ c ∈ new := by
  unfold repl at h
  rcases List.mem_append.1 h with h | h
  · rcases List.mem_append.1 h with h | h
    · exact .inl (List.mem_of_mem_take h)
    · exact .inr h
  · exact .inl (List.mem_of_mem_drop h)
/-- the same piece, apart from shard and version -/
theorem Cn.alike {a b : Option BK} {c d : Ch} (h1 : d.lo = c.lo) (h2 : d.hi = c.hi) (h : Cn a b [c]) : Cn a b [d] := by
  obtain ⟨k1, k2, k3⟩ := h
  have : hiO d = hiO c := by unfold hiO; rw [h2]
  exact ⟨by rw [h1]; exact k1, by rw [h1, this]; exact k2, by rw [this]; exact k3⟩
theorem inB_alike {key : ByteArray} {c d : Ch} (h1 : d.lo = c.lo) (h2 : d.hi = c.hi) : inB key d = inB key c := by unfold inB; rw [h1, h2]
/-- what is touched keeps its ends -/
theorem touch_ways (l : List Ch) (s v : Int) : (touch l s v = l ∧ ∀ c ∈ l, c.sh ≠ s) ∨ ∃ (i : Nat) (c : Ch), l[i]? = some c ∧ c.sh = s ∧ touch l s v = repl l i 1 [⟨c.lo, c.hi, c.sh, v, c.ju⟩] := by
  unfold touch
  rcases idxI_range (shB s) l with ⟨h1, h2⟩ | ⟨i, c, h1, h2, h3, h4⟩
  · rw [h1]
    exact .inl ⟨rfl, fun c hc => by simpa [shB] using h2 c hc⟩
  · rw [h1, if_neg (by omega), Int.toNat_natCast, h2]
    exact .inr ⟨i, c, h2, by simpa [shB] using h3, by rw [← set_repl]; exact (List.getElem?_eq_some_iff.1 h2).1⟩
theorem repl_one_map {β : Type} (f : Ch → β) {l : List Ch} {i : Nat} {c d : Ch} (h : l[i]? = some c) (hf : f d = f c) : (repl l i 1 [d]).map f = l.map f := by
  unfold repl
  rw [List.map_append, List.map_append, List.map_cons, List.map_nil, hf]
  conv => rhs; rw [← List.take_append_drop i l, drop_of h]
  simp
/-- the shards of the keys are as before -/
def Keeps (l m : List Ch) : Prop := ∀ key : ByteArray, ∀ c' ∈ m, inB key c' = true → ∃ c ∈ l, inB key c = true ∧ c.sh = c'.sh
theorem Keeps.piece {l : List Ch} {i n : Nat} {new : List Ch} (h : ∀ key : ByteArray, ∀ c' ∈ new, inB key c' = true → ∃ c ∈ l, inB key c = true ∧ c.sh = c'.sh) : Keeps l (repl l i n new) := by
  intro key c' hc hk
  rcases mem_repl hc with h1 | h1
  · exact ⟨c', h1, hk, rfl⟩
  · exact h key c' h1 hk
theorem repl_len {l : List Ch} {i n : Nat} {new : List Ch} (h : i + n ≤ l.length) : (repl l i n new).length + n = l.length + new.length := by unfold repl; simp; omega
theorem nx_of {v : Int} (h : v ≤ 1152921504606846976) (h1 : 1 ≤ v) : nx v = v + 1 := by unfold nx wrap64; omega
/-- what a change of valid routes is -/
structure Step (R S : Ro) : Prop where
  sp : S.sp = R.sp
  ks : S.ks = R.ks
  ha : S.ha = R.ha
  ep : S.ep = R.ep
  ver : S.ver = R.ver + 1
theorem VR.of_step {R S : Ro} (h : VR R) (st : Step R S) (hl : S.cs.length ≤ 64) (hg : ∀ c ∈ S.cs, 0 ≤ c.sh ∧ c.sh < 8 ∧ 1 ≤ c.ver ∧ c.ver ≤ R.ver + 1) (hc : Cn (some []) none S.cs) : VR S :=
  ⟨by rw [st.sp]; exact h.nm, by rw [st.ks, st.ha]; exact h.ke, hl, by rw [st.ep]; exact h.ep, by rw [st.ver]; have := h.ver; omega, by rw [st.ver]; exact hg, hc⟩
theorem idxI_lt {p : Ch → Bool} {l : List Ch} {i : Nat} {c : Ch} (h : l[i]? = some c) (hp : p c = true) (hu : ∀ j d, l[j]? = some d → p d = true → j = i) : idxI p l = (i : Nat) := by
  rcases idxI_range p l with ⟨_, h2⟩ | ⟨j, d, h1, h2, h3, _⟩
  · rw [h2 c (List.mem_of_getElem? h)] at hp; cases hp
  · rw [h1, hu j d h2 h3]
theorem getElem?_lt {α : Type} {l : List α} {i : Nat} {c : α} (h : l[i]? = some c) : i < l.length := (List.getElem?_eq_some_iff.1 h).1

theorem split_ways {R : Ro} {key : ByteArray} (h : VR R) (hv : R.ver ≤ 1152921504606846976) : ((splitR R key).2 ≠ 0 ∧ (splitR R key).1 = Ro.zero) ∨
    ∃ (i : Nat) (c : Ch), R.cs[i]? = some c ∧ inB key c = true ∧ key.toList ≠ [] ∧ c.lo.toList ≠ key.toList ∧ c.ju = false ∧ R.cs.length < 64 ∧
      splitR R key = (⟨R.sp, R.ks, R.ha, R.ep, R.ver + 1, repl R.cs i 1 [⟨c.lo, key, c.sh, R.ver + 1, c.ju⟩, ⟨key, c.hi, c.sh, R.ver + 1, c.ju⟩]⟩, 0) := by
  have hn := nx_of hv h.ver
  unfold splitR
  split
  · exact .inl ⟨by decide, rfl⟩
  rename_i h1
  split
  · exact .inl ⟨by decide, rfl⟩
  rename_i h2
  rcases idxI_range (inB key) R.cs with ⟨h3, _⟩ | ⟨i, c, h3, h4, h5, _⟩
  · exact absurd (.inr (.inr (by omega))) h1
  rw [h3, Int.toNat_natCast, h4]
  cases hj : c.ju
  · refine .inr ⟨i, c, h4, h5, fun h => h1 (.inl h), fun he => ?_, hj, by omega, ?_⟩
    · have hb : begB key c = true := beq_iff_eq.2 he
      rcases idxI_range (begB key) R.cs with ⟨_, k2⟩ | ⟨j, d, k1, _⟩
      · rw [k2 c (List.mem_of_getElem? h4)] at hb; cases hb
      · exact h1 (.inr (.inl (by omega)))
    · simp [hn, hj]
  · exact .inl ⟨by simp [hj], by simp [hj]⟩

theorem join_ways {R : Ro} {key : ByteArray} (h : VR R) (hv : R.ver ≤ 1152921504606846976) : ((joinR R key).2 ≠ 0 ∧ (joinR R key).1 = Ro.zero) ∨
    ∃ (i : Nat) (a b : Ch), R.cs[i]? = some a ∧ R.cs[i + 1]? = some b ∧ b.lo.toList = key.toList ∧ a.sh = b.sh ∧ a.ju = false ∧ b.ju = false ∧
      joinR R key = (⟨R.sp, R.ks, R.ha, R.ep, R.ver + 1, repl R.cs i 2 [⟨a.lo, b.hi, a.sh, R.ver + 1, a.ju⟩]⟩, 0) := by
  have hn := nx_of hv h.ver
  unfold joinR
  split
  · exact .inl ⟨by decide, rfl⟩
  rename_i h1
  rcases idxI_range (begB key) R.cs with ⟨h3, _⟩ | ⟨i, b, h3, h4, h5, _⟩
  · omega
  rw [h3] at h1
  rw [h3, Int.toNat_natCast, h4]
  obtain ⟨k, rfl⟩ : ∃ k, i = k + 1 := ⟨i - 1, by omega⟩
  have hl := getElem?_lt h4
  obtain ⟨a, ha⟩ : ∃ a, R.cs[k]? = some a := ⟨_, List.getElem?_eq_getElem (by omega)⟩
  rw [show k + 1 - 1 = k by omega, ha]
  by_cases hc : a.sh ≠ b.sh ∨ a.ju = true ∨ b.ju = true
  · exact .inl ⟨by simp [hc], by simp [hc]⟩
  · refine .inr ⟨k, a, b, ha, h4, beq_iff_eq.1 h5, ?_, ?_, ?_, ?_⟩
    · exact Decidable.byContradiction fun h => hc (.inl h)
    · cases hj : a.ju; rfl; exact absurd (.inr (.inl hj)) hc
    · cases hj : b.ju; rfl; exact absurd (.inr (.inr hj)) hc
    · simp only [if_neg hc, hn]

theorem give_ways {R : Ro} {key : ByteArray} {z : Int} (h : VR R) (hv : R.ver ≤ 1152921504606846976) : ((giveR R key z).2 ≠ 0 ∧ (giveR R key z).1 = Ro.zero) ∨
    ∃ (i : Nat) (c : Ch), R.cs[i]? = some c ∧ c.lo.toList = key.toList ∧ 0 ≤ z ∧ z < 8 ∧ c.sh ≠ z ∧ c.ju = false ∧
      giveR R key z = (⟨R.sp, R.ks, R.ha, R.ep, R.ver + 1, touch (repl R.cs i 1 [⟨c.lo, c.hi, z, R.ver + 1, c.ju⟩]) c.sh (R.ver + 1)⟩, 0) := by
  have hn := nx_of hv h.ver
  unfold giveR
  split
  · exact .inl ⟨by decide, rfl⟩
  rename_i h1
  split
  · exact .inl ⟨by decide, rfl⟩
  rename_i h2
  rcases idxI_range (begB key) R.cs with ⟨h3, _⟩ | ⟨i, c, h3, h4, h5, _⟩
  · omega
  rw [h3, Int.toNat_natCast, h4]
  by_cases hc : c.sh = z ∨ c.ju = true
  · exact .inl ⟨by simp [hc], by simp [hc]⟩
  · refine .inr ⟨i, c, h4, beq_iff_eq.1 h5, by omega, by omega, fun h => hc (.inl h), ?_, ?_⟩
    · cases hj : c.ju; rfl; exact absurd (.inr hj) hc
    · simp only [if_neg hc, hn]

theorem mark_ways {R : Ro} {key : ByteArray} {j : Bool} (h : VR R) (hv : R.ver ≤ 1152921504606846976) : ((markR R key j).2 ≠ 0 ∧ (markR R key j).1 = Ro.zero) ∨ markR R key j = (R, 0) ∨
    ∃ (i : Nat) (c : Ch), R.cs[i]? = some c ∧ c.lo.toList = key.toList ∧
      markR R key j = (⟨R.sp, R.ks, R.ha, R.ep, R.ver + 1, repl R.cs i 1 [⟨c.lo, c.hi, c.sh, R.ver + 1, j⟩]⟩, 0) := by
  have hn := nx_of hv h.ver
  unfold markR
  split
  · exact .inl ⟨by decide, rfl⟩
  rename_i h1
  rcases idxI_range (begB key) R.cs with ⟨h3, _⟩ | ⟨i, c, h3, h4, h5, _⟩
  · omega
  rw [h3, Int.toNat_natCast, h4]
  by_cases hc : c.ju = j
  · exact .inr (.inl (by simp [hc]))
  · exact .inr (.inr ⟨i, c, h4, beq_iff_eq.1 h5, by simp only [if_neg hc, hn]⟩)

/-- a chunk takes another shard, version and mark -/
theorem one_cn {l : List Ch} {a b : Option BK} {i : Nat} {c d : Ch} (h : Cn a b l) (hi : l[i]? = some c) (h1 : d.lo = c.lo) (h2 : d.hi = c.hi) : Cn a b (repl l i 1 [d]) :=
  h.piece fun p q hp => by rw [take_one hi] at hp; exact hp.alike h1 h2
theorem one_good {l : List Ch} {v : Int} (h : ∀ c ∈ l, 0 ≤ c.sh ∧ c.sh < 8 ∧ 1 ≤ c.ver ∧ c.ver ≤ v) (hv : 1 ≤ v) {i n : Nat} {new : List Ch} (hn : ∀ d ∈ new, 0 ≤ d.sh ∧ d.sh < 8 ∧ d.ver = v + 1) : ∀ c ∈ repl l i n new, 0 ≤ c.sh ∧ c.sh < 8 ∧ 1 ≤ c.ver ∧ c.ver ≤ v + 1 := by
  intro c hc
  rcases mem_repl hc with h1 | h1
  · have := h c h1; omega
  · have := hn c h1; omega

theorem split_ok {R : Ro} {key : ByteArray} (h : VR R) {i : Nat} {c : Ch} (hi : R.cs[i]? = some c) (hk : inB key c = true) (hne : key.toList ≠ []) (hlo : c.lo.toList ≠ key.toList) (hl : R.cs.length < 64) :
    VR ⟨R.sp, R.ks, R.ha, R.ep, R.ver + 1, repl R.cs i 1 [⟨c.lo, key, c.sh, R.ver + 1, c.ju⟩, ⟨key, c.hi, c.sh, R.ver + 1, c.ju⟩]⟩ ∧ Keeps R.cs (repl R.cs i 1 [⟨c.lo, key, c.sh, R.ver + 1, c.ju⟩, ⟨key, c.hi, c.sh, R.ver + 1, c.ju⟩]) := by
  have hm := List.mem_of_getElem? hi
  have hg := h.good c hm
  obtain ⟨k1, k2⟩ := (inB_iff _ _).1 hk
  have hlt : Op.bytesLess c.lo.toList key.toList = true := by
    rcases bl_tri c.lo.toList key.toList with h | h | h
    · exact h
    · exact absurd h hlo
    · rw [k1] at h; cases h
  have hll := getElem?_lt hi
  refine ⟨h.of_step ⟨rfl, rfl, rfl, rfl, rfl⟩ ?_ ?_ ?_, ?_⟩
  · have := repl_len (l := R.cs) (i := i) (n := 1) (new := [⟨c.lo, key, c.sh, R.ver + 1, c.ju⟩, ⟨key, c.hi, c.sh, R.ver + 1, c.ju⟩]) (by omega)
    simp at this
    simp
    omega
  · refine one_good h.good h.ver fun d hd => ?_
    rcases List.mem_cons.1 hd with rfl | hd
    · exact ⟨hg.1, hg.2.1, rfl⟩
    · rw [List.mem_singleton.1 hd]
      exact ⟨hg.1, hg.2.1, rfl⟩
  · refine h.cn.piece fun p q hp => ?_
    rw [take_one hi] at hp
    obtain ⟨e1, _, e3⟩ := hp
    have e3 : hiO c = q := e3
    refine ⟨e1, ?_, ?_, ?_, ?_⟩
    · rw [hiO_some hne]; exact hlt
    · rw [hiO_some hne]
    · exact k2
    · exact e3
  · refine Keeps.piece fun k' d hd hin => ?_
    refine ⟨c, hm, ?_, ?_⟩
    · rcases List.mem_cons.1 hd with rfl | hd
      · rw [inB_iff] at hin ⊢
        refine ⟨hin.1, ?_⟩
        have h2 := hin.2
        rw [hiO_some hne] at h2
        have h2 : Op.bytesLess k'.toList key.toList = true := h2
        cases ho : hiO c with
        | none => trivial
        | some y => rw [ho] at k2; exact bl_tr h2 k2
      · rw [List.mem_singleton.1 hd] at hin
        rw [inB_iff] at hin ⊢
        refine ⟨?_, hin.2⟩
        have h1 : Op.bytesLess k'.toList key.toList = false := hin.1
        cases h5 : Op.bytesLess k'.toList c.lo.toList
        · rfl
        · rw [bl_tr h5 hlt] at h1; cases h1
    · rcases List.mem_cons.1 hd with rfl | hd
      · rfl
      · rw [List.mem_singleton.1 hd]

theorem join_ok {R : Ro} (h : VR R) {i : Nat} {a b : Ch} (hi : R.cs[i]? = some a) (hj : R.cs[i + 1]? = some b) (hs : a.sh = b.sh) :
    VR ⟨R.sp, R.ks, R.ha, R.ep, R.ver + 1, repl R.cs i 2 [⟨a.lo, b.hi, a.sh, R.ver + 1, a.ju⟩]⟩ ∧ Keeps R.cs (repl R.cs i 2 [⟨a.lo, b.hi, a.sh, R.ver + 1, a.ju⟩]) := by
  have hm := List.mem_of_getElem? hi
  have hm2 := List.mem_of_getElem? hj
  have hg := h.good a hm
  have hll := getElem?_lt hj
  have h64 := h.ln
  have hcn := h.cn
  refine ⟨h.of_step ⟨rfl, rfl, rfl, rfl, rfl⟩ ?_ ?_ ?_, ?_⟩
  · have := repl_len (l := R.cs) (i := i) (n := 2) (new := [⟨a.lo, b.hi, a.sh, R.ver + 1, a.ju⟩]) (by omega)
    simp at this
    simp
    omega
  · refine one_good h.good h.ver fun d hd => ?_
    rw [List.mem_singleton.1 hd]
    exact ⟨hg.1, hg.2.1, rfl⟩
  · refine h.cn.piece fun p q hp => ?_
    rw [take_two hi hj] at hp
    obtain ⟨e1, e2, e3, e4, e5⟩ := hp
    refine ⟨e1, ?_, e5⟩
    rw [e3] at e2
    have e2 : Op.bytesLess a.lo.toList b.lo.toList = true := e2
    show ltO a.lo.toList (hiO b)
    cases ho : hiO b with
    | none => trivial
    | some y => rw [ho] at e4; exact bl_tr e2 e4
  · refine Keeps.piece fun k' d hd hin => ?_
    rw [List.mem_singleton.1 hd] at hin ⊢
    rw [inB_iff] at hin
    by_cases hb : Op.bytesLess k'.toList b.lo.toList = true
    · refine ⟨a, hm, ?_, rfl⟩
      rw [inB_iff]
      refine ⟨hin.1, ?_⟩
      rw [← List.take_append_drop i R.cs] at hcn
      obtain ⟨p, _, hc⟩ := hcn.split
      rw [drop_of hi, drop_of hj] at hc
      rw [hc.2.2.1]
      exact hb
    · exact ⟨b, hm2, (inB_iff _ _).2 ⟨by simpa using hb, hin.2⟩, hs.symm⟩

theorem repl_get {l : List Ch} {i : Nat} {d : Ch} (hi : i < l.length) (j : Nat) : (repl l i 1 [d])[j]? = if j = i then some d else l[j]? := by
  rw [← set_repl hi, List.getElem?_set]
  split
  · rename_i h; subst h; rw [if_pos rfl]
  · rename_i h; rw [if_neg (fun e => h e.symm)]
theorem touch_get {l : List Ch} {s v : Int} (j : Nat) : (touch l s v)[j]? = l[j]? ∨ ∃ c, l[j]? = some c ∧ c.sh = s ∧ (touch l s v)[j]? = some ⟨c.lo, c.hi, c.sh, v, c.ju⟩ := by
  rcases touch_ways l s v with ⟨h, _⟩ | ⟨i, c, h1, h2, h3⟩
  · exact .inl (by rw [h])
  · rw [h3, repl_get (getElem?_lt h1)]
    split
    · rename_i h; subst h; exact .inr ⟨c, h1, h2, rfl⟩
    · exact .inl rfl
theorem touch_cn {l : List Ch} {a b : Option BK} (h : Cn a b l) (s v : Int) : Cn a b (touch l s v) := by
  rcases touch_ways l s v with ⟨h1, _⟩ | ⟨i, c, h1, h2, h3⟩
  · rw [h1]; exact h
  · rw [h3]; exact one_cn h h1 rfl rfl
theorem touch_len (l : List Ch) (s v : Int) : (touch l s v).length = l.length := by
  rcases touch_ways l s v with ⟨h1, _⟩ | ⟨i, c, h1, h2, h3⟩
  · rw [h1]
  · rw [h3, ← set_repl (getElem?_lt h1), List.length_set]

theorem give_ok {R : Ro} {z : Int} (h : VR R) {i : Nat} {c : Ch} (hi : R.cs[i]? = some c) (h0 : 0 ≤ z) (h8 : z < 8) :
    VR ⟨R.sp, R.ks, R.ha, R.ep, R.ver + 1, touch (repl R.cs i 1 [⟨c.lo, c.hi, z, R.ver + 1, c.ju⟩]) c.sh (R.ver + 1)⟩ := by
  have hll := getElem?_lt hi
  have hG := one_good (i := i) (n := 1) (new := [⟨c.lo, c.hi, z, R.ver + 1, c.ju⟩]) h.good h.ver fun d hd => by rw [List.mem_singleton.1 hd]; exact ⟨h0, h8, rfl⟩
  refine h.of_step ⟨rfl, rfl, rfl, rfl, rfl⟩ ?_ ?_ ?_
  · show (touch _ _ _).length ≤ 64
    rw [touch_len, ← set_repl hll, List.length_set]
    exact h.ln
  · show ∀ d ∈ touch _ _ _, _
    rcases touch_ways (repl R.cs i 1 [⟨c.lo, c.hi, z, R.ver + 1, c.ju⟩]) c.sh (R.ver + 1) with ⟨h1, _⟩ | ⟨j, d, h1, h2, h3⟩
    · rw [h1]; exact hG
    · rw [h3]
      intro e he
      rcases mem_repl he with k | k
      · exact hG e k
      · rw [List.mem_singleton.1 k]
        have hd := hG d (List.mem_of_getElem? h1)
        have := h.ver
        exact ⟨hd.1, hd.2.1, by show 1 ≤ R.ver + 1; omega, Int.le_refl _⟩
  · exact touch_cn (one_cn h.cn hi (by rfl) (by rfl)) _ _
/-- after Give: the chunks lie where they lay; the shard is the old one but for the chunk that was given -/
theorem give_get {R : Ro} {z : Int} {i : Nat} {c : Ch} (hi : R.cs[i]? = some c) (k : Nat) (d : Ch) (hk : (touch (repl R.cs i 1 [⟨c.lo, c.hi, z, R.ver + 1, c.ju⟩]) c.sh (R.ver + 1))[k]? = some d) :
    ∃ e, R.cs[k]? = some e ∧ d.lo = e.lo ∧ d.hi = e.hi ∧ d.sh = (if k = i then z else e.sh) := by
  have hll := getElem?_lt hi
  have key : ∀ d, (repl R.cs i 1 [⟨c.lo, c.hi, z, R.ver + 1, c.ju⟩])[k]? = some d → ∃ e, R.cs[k]? = some e ∧ d.lo = e.lo ∧ d.hi = e.hi ∧ d.sh = (if k = i then z else e.sh) := by
    intro d hd
    rw [repl_get hll] at hd
    split at hd
    · rename_i h
      subst h
      injection hd with hd
      subst hd
      exact ⟨c, hi, rfl, rfl, by rw [if_pos rfl]⟩
    · rename_i h
      exact ⟨d, hd, rfl, rfl, by rw [if_neg h]⟩
  rcases touch_get (l := repl R.cs i 1 [⟨c.lo, c.hi, z, R.ver + 1, c.ju⟩]) (s := c.sh) (v := R.ver + 1) k with h | ⟨d', h1, h2, h3⟩
  · rw [h] at hk
    exact key d hk
  · rw [h3] at hk
    injection hk with hk
    subst hk
    exact key d' h1
theorem mark_ok {R : Ro} {j : Bool} (h : VR R) {i : Nat} {c : Ch} (hi : R.cs[i]? = some c) :
    VR ⟨R.sp, R.ks, R.ha, R.ep, R.ver + 1, repl R.cs i 1 [⟨c.lo, c.hi, c.sh, R.ver + 1, j⟩]⟩ ∧ Keeps R.cs (repl R.cs i 1 [⟨c.lo, c.hi, c.sh, R.ver + 1, j⟩]) := by
  have hm := List.mem_of_getElem? hi
  have hg := h.good c hm
  have hll := getElem?_lt hi
  refine ⟨h.of_step ⟨rfl, rfl, rfl, rfl, rfl⟩ ?_ ?_ ?_, ?_⟩
  · show (repl _ _ _ _).length ≤ 64
    rw [← set_repl hll, List.length_set]
    exact h.ln
  · refine one_good h.good h.ver fun d hd => ?_
    rw [List.mem_singleton.1 hd]
    exact ⟨hg.1, hg.2.1, rfl⟩
  · exact one_cn h.cn hi (by rfl) (by rfl)
  · refine Keeps.piece fun k' d hd hin => ?_
    rw [List.mem_singleton.1 hd] at hin ⊢
    exact ⟨c, hm, by rw [← hin]; exact (inB_alike (by rfl) (by rfl)).symm, rfl⟩

end Go.Proofs.YtblepmmibhphhaaGreatDoor

namespace Go.Proofs.YtblepmmibhphhaaGreatDoor
open Go.RowKit

def verStep (s : Int) (p : Int × Bool) (c : Ch) : Int × Bool := if c.sh = s ∧ (p.2 = false ∨ p.1 < c.ver) then (c.ver, true) else p
def verR (s : Int) (l : List Ch) : Int := (l.foldl (verStep s) (0, false)).1
theorem verStep_fold (s : Int) : ∀ (l : List Ch) (p : Int × Bool), (∀ c ∈ l, c.sh = s → c.ver ≤ (l.foldl (verStep s) p).1) ∧ (p.2 = true → p.1 ≤ (l.foldl (verStep s) p).1) ∧
    (l.foldl (verStep s) p = p ∨ ((l.foldl (verStep s) p).2 = true ∧ ∃ c ∈ l, c.sh = s ∧ (l.foldl (verStep s) p).1 = c.ver))
  | [], p => ⟨fun c h => by simp at h, fun _ => Int.le_refl _, .inl rfl⟩
  | a :: r, p => by
    rw [List.foldl_cons]
    obtain ⟨h1, h2, h3⟩ := verStep_fold s r (verStep s p a)
    by_cases hc : a.sh = s ∧ (p.2 = false ∨ p.1 < a.ver)
    · have hv : verStep s p a = (a.ver, true) := by unfold verStep; rw [if_pos hc]
      rw [hv] at h1 h2 h3 ⊢
      refine ⟨fun c hm hs => ?_, fun hp => ?_, ?_⟩
      · rcases List.mem_cons.1 hm with rfl | hm
        · exact h2 rfl
        · exact h1 c hm hs
      · have := h2 rfl
        rcases hc.2 with h | h
        · rw [hp] at h; cases h
        · simp only at this; omega
      · rcases h3 with h3 | ⟨h3, c, hm, hs, hvv⟩
        · rw [h3]
          exact .inr ⟨rfl, a, by simp, hc.1, rfl⟩
        · exact .inr ⟨h3, c, List.mem_cons_of_mem _ hm, hs, hvv⟩
    · have hv : verStep s p a = p := by unfold verStep; rw [if_neg hc]
      rw [hv] at h1 h2 h3 ⊢
      refine ⟨fun c hm hs => ?_, h2, ?_⟩
      · rcases List.mem_cons.1 hm with rfl | hm
        · have hp2 : p.2 = true := by cases h : p.2; exact absurd ⟨hs, .inl h⟩ hc; rfl
          have := h2 hp2
          have : ¬ p.1 < c.ver := fun h => hc ⟨hs, .inr h⟩
          omega
        · exact h1 c hm hs
      · rcases h3 with h3 | ⟨h3, c, hm, hs, hvv⟩
        · exact .inl h3
        · exact .inr ⟨h3, c, List.mem_cons_of_mem _ hm, hs, hvv⟩
theorem verR_ways (s : Int) (l : List Ch) : (∀ c ∈ l, c.sh = s → c.ver ≤ verR s l) ∧ (verR s l = 0 ∨ ∃ c ∈ l, c.sh = s ∧ verR s l = c.ver) := by
  obtain ⟨h1, _, h3⟩ := verStep_fold s l (0, false)
  refine ⟨h1, ?_⟩
  rcases h3 with h3 | ⟨_, h3⟩
  · left; unfold verR; rw [h3]
  · exact .inr h3

set_option maxRecDepth 100000 in
set_option maxHeartbeats 800000 in
theorem version_any (R : Ro) (a : RA) (s : Int) (w : World) (h : RR w a R) :
    Calls Tryz.prog 62 #[rval a R, .int .i64 s] w fun e w' => e = .returned (.int .i64 (verR s R.cs)) ∧ Below w.heap.size w w' := by
  obtain ⟨KA, kn, kc, CA, cn, cc⟩ := a
  have H := Lib.hid h
  have hn : Hid (cn = R.cs.length) := h.cs.ln
  have hcz : cn * 56 ≤ reach := h.cs.sz
  have hkn : cn ≤ 140737488355328 := by unfold reach at hcz; omega
  clear h hcz
  have B0 : Hid (Blk (w.alloc (Obj.cells (rarr ⟨KA, kn, kc, CA, cn, cc⟩ R) 45)) w.heap.size 45 (rarr ⟨KA, kn, kc, CA, cn, cc⟩ R)) := Blk.new_at rfl
  have BE : Hid (Below w.heap.size w (w.alloc (Obj.cells (rarr ⟨KA, kn, kc, CA, cn, cc⟩ R) 45))) := (Below.refl _ _).alloc (Nat.le_refl _) _
  go_enter Tryz.func62, Tryz.ntmps62
  go_upto_region 1 with fail
  change (Code.region 1 _ _).wp _ _ _ (w.alloc (Obj.cells (rarr ⟨KA, kn, kc, CA, cn, cc⟩ R) 45))
  generalize w.alloc (Obj.cells (rarr ⟨KA, kn, kc, CA, cn, cc⟩ R) 45) = wa at *
  obtain ⟨q0, q1, q2, q3, q4, q5, qz⟩ := blk_ro B0.out
  simp only at q1 q5
  clear q0 q1 q2 q3 q4
  go_wp2_with fail
  clear q5 qz
  go_loopw [12, 5, 6] (fun v12 v5 v6 wr => ∃ (i : Nat) (best : Int) (found : Bool), i ≤ cn ∧ v12 = .int .i64 i ∧ v5 = .int .i64 best ∧ v6 = .bool found ∧ R.cs.foldl (verStep s) (0, false) = (R.cs.drop i).foldl (verStep s) (best, found) ∧ Below w.heap.size w wr) (fun v _ _ _ => cn - (intOf v).toNat)
  case atStart => exact ⟨0, 0, false, Nat.zero_le _, rfl, rfl, rfl, rfl, BE.out⟩
  case round =>
    obtain ⟨i, best, found, hi, rfl, rfl, rfl, ha, hbel⟩ := hrel
    have HA := Lib.hid ha
    have HB := Lib.hid hbel
    clear ha
    by_cases hlt : i < cn
    · obtain ⟨b, off, x, hA, hb, hx, e0, e1, e2, e3, e4⟩ := H.out.cs.sr.at5 hlt
      simp only at hA
      subst hA
      have HX : Hid ((R.cs.drop i).foldl (verStep s) (best, found) = (R.cs.drop (i + 1)).foldl (verStep s) (verStep s (best, found) x)) := by rw [Hid, drop_of hx]; rfl
      have g0 := (hbel.cell (p := ⟨b, off + i * 5, none⟩) hb).trans e0
      have g1 := (hbel.cell (p := ⟨b, off + i * 5 + 1, none⟩) hb).trans e1
      have g2 := (hbel.cell (p := ⟨b, off + i * 5 + 2, none⟩) hb).trans e2
      have g3 := (hbel.cell (p := ⟨b, off + i * 5 + 3, none⟩) hb).trans e3
      have g4 := (hbel.cell (p := ⟨b, off + i * 5 + 4, none⟩) hb).trans e4
      obtain ⟨xlo, xhi, xsh, xver, xju⟩ := x
      simp only at g0 g1 g2 g3 g4
      have HBA := Lib.hid (HB.out.alloc HB.out.size (Obj.cells #[.string xlo, .string xhi, .int .i64 xsh, .int .i64 xver, .bool xju] 58))
      clear hx e0 e1 e2 e3 e4 hbel
      cases hsh : (xsh == s)
      · have HN : Hid (R.cs.foldl (verStep s) (0, false) = (R.cs.drop (i + 1)).foldl (verStep s) (best, found)) := by
          rw [Hid, HA.out, HX.out]
          unfold verStep
          rw [if_neg (fun h => by rw [beq_eq_false_iff_ne] at hsh; exact hsh h.1)]
        go_wp2_with fail
        go_roundw
        case rel => exact ⟨i + 1, best, found, by omega, by go_num, rfl, rfl, HN.out, HBA.out⟩
        case measure => simp [intOf]; omega
      have hsx : Hid (xsh = s) := beq_iff_eq.1 hsh
      cases found
      · have HN : Hid (R.cs.foldl (verStep s) (0, false) = (R.cs.drop (i + 1)).foldl (verStep s) (xver, true)) := by
          rw [Hid, HA.out, HX.out]
          unfold verStep
          rw [if_pos ⟨hsx.out, .inl rfl⟩]
        go_wp2_with fail
        go_roundw
        case rel => exact ⟨i + 1, xver, true, by omega, by go_num, rfl, rfl, HN.out, HBA.out⟩
        case measure => simp [intOf]; omega
      by_cases hv : best < xver
      · have HN : Hid (R.cs.foldl (verStep s) (0, false) = (R.cs.drop (i + 1)).foldl (verStep s) (xver, true)) := by
          rw [Hid, HA.out, HX.out]
          unfold verStep
          rw [if_pos ⟨hsx.out, .inr hv⟩]
        go_wp2_with fail
        go_roundw
        case rel => exact ⟨i + 1, xver, true, by omega, by go_num, rfl, rfl, HN.out, HBA.out⟩
        case measure => simp [intOf]; omega
      · have HN : Hid (R.cs.foldl (verStep s) (0, false) = (R.cs.drop (i + 1)).foldl (verStep s) (best, true)) := by
          rw [Hid, HA.out, HX.out]
          unfold verStep
          rw [if_neg (fun h => by rcases h.2 with h | h; cases h; exact hv h)]
        go_wp2_with fail
        go_roundw
        case rel => exact ⟨i + 1, best, true, by omega, by go_num, rfl, rfl, HN.out, HBA.out⟩
        case measure => simp [intOf]; omega
    · have HN : Hid (verR s R.cs = best) := by rw [Hid, verR, HA.out, List.drop_of_length_le (by rw [← hn.out]; omega)]; rfl
      clear hbel
      go_wp2_with fail
      go_ret
      exact ⟨by rw [HN.out]; rfl, HB.out⟩

end Go.Proofs.YtblepmmibhphhaaGreatDoor

namespace Go.Proofs.YtblepmmibhphhaaGreatDoor
open Go.RowKit

def fewB (R : Ro) : Bool := decide (R.cs.length ≤ 80) && decide (R.ks.length ≤ 10)
end Go.Proofs.YtblepmmibhphhaaGreatDoor

namespace Go.Proofs.YtblepmmibhphhaaGreatDoor
open Go.RowKit

theorem cell_setR {w : World} {g b i : Nat} (hb : b ≠ g) (a : RA) (R : Ro) : (setR w g a R).cell? ⟨b, i, none⟩ = w.cell? ⟨b, i, none⟩ := World.cell?_of_block (w := w) (a := ⟨b, i, none⟩) (heap_setR w g a R b hb)
theorem SR.setR_far {α : Type} {s : Nat} {rec : α → List Value} {w : World} {g : Nat} {A : Option Addr} {n c : Nat} {l : List α} (h : SR s rec w A n c l) (hb : ∀ b off, 0 < n → A = some ⟨b, off, none⟩ → (∀ (i : Nat) (a : α), l[i]? = some a → ∀ (j : Nat) (v : Value), (rec a)[j]? = some v → w.cell? ⟨b, off + i * s + j, none⟩ = some v) → b ≠ g) (a : RA) (R : Ro) : SR s rec (setR w g a R) A n c l := by
  refine ⟨h.ln, h.lc, fun hn => ?_⟩
  obtain ⟨b, off, h1, h2, h3⟩ := h.el hn
  have := hb b off hn h1 h3
  exact ⟨b, off, h1, by rw [size_setR]; exact h2, fun i x hi j v hj => (cell_setR this a R).trans (h3 i x hi j v hj)⟩
theorem zero_cell {w : World} {g : Nat} {t : TypeId} (B : Blk w g t (rarr RA.zero Ro.zero)) {i : Nat} {v : Value} (h : w.cell? ⟨g, i, none⟩ = some v) : (rarr RA.zero Ro.zero)[i]? = some v := by rw [← B.cell]; exact h
theorem zero_string {i : Nat} {s : ByteArray} (h : (rarr RA.zero Ro.zero)[i]? = some (.string s)) : i = 0 ∧ s = ByteArray.empty := by
  rcases i with _ | _ | _ | _ | _ | _ | i
  · simp [Ro.zero] at h; exact ⟨rfl, h.symm⟩
  all_goals simp at h
theorem zero_slice {i : Nat} {A : Option Addr} {n c : Nat} (h : (rarr RA.zero Ro.zero)[i]? = some (.slice A n c)) : n = 0 := by
  rcases i with _ | _ | _ | _ | _ | _ | i
  all_goals simp [RA.zero] at h
  all_goals exact h.2.1.symm
theorem CS.far {w : World} {g : Nat} {t : TypeId} {A : Option Addr} {n c : Nat} {l : List Ch} (h : CS w A n c l) (B : Blk w g t (rarr RA.zero Ro.zero)) (a : RA) (R : Ro) : CS (setR w g a R) A n c l := by
  refine ⟨h.sr.setR_far (fun b off hn _ hc hb => ?_) a R, h.sz⟩
  subst hb
  have hl : 0 < l.length := by have := h.ln; omega
  have h0 := List.getElem?_eq_getElem hl
  have c0 := zero_string (zero_cell B (hc 0 _ h0 0 _ rfl))
  have c1 := zero_string (zero_cell B (hc 0 _ h0 1 _ rfl))
  omega
theorem ST.far {w : World} {g : Nat} {t : TypeId} {A : Option Addr} {n c : Nat} {l : List ByteArray} (h : ST w A n c l) (hp : pathB l = true) (B : Blk w g t (rarr RA.zero Ro.zero)) (a : RA) (R : Ro) : ST (setR w g a R) A n c l := by
  refine ⟨h.sr.setR_far (fun b off hn _ hc hb => ?_) a R, h.sz, h.el⟩
  subst hb
  have hl : 0 < l.length := by have := h.sr.ln; omega
  have h0 := List.getElem?_eq_getElem hl
  have c0 := (zero_string (zero_cell B (hc 0 _ h0 0 _ rfl))).2
  simp only [pathB, Bool.and_eq_true, List.all_eq_true] at hp
  have h2 := hp.2 _ (List.getElem_mem hl)
  rw [c0] at h2
  exact absurd h2 (by decide)
theorem KS.far {w : World} {g : Nat} {t : TypeId} {A : Option Addr} {n c : Nat} {ks : List Od} (h : KS w A n c ks) (hp : ∀ q ∈ ks, pathB q.p = true) (B : Blk w g t (rarr RA.zero Ro.zero)) (a : RA) (R : Ro) : KS (setR w g a R) A n c ks := by
  obtain ⟨os, h⟩ := h
  refine ⟨os, h.sr.setR_far (fun b off hn _ hc hb => ?_) a R, h.sz, h.ln, fun i o q h1 h2 => ⟨(h.el i o q h1 h2).d, (h.el i o q h1 h2).st.far (hp q (List.mem_of_getElem? h2)) B a R⟩⟩
  subst hb
  have hl : 0 < os.length := by have := h.sr.ln; omega
  have hl2 : 0 < ks.length := by have := h.ln; omega
  have h0 := List.getElem?_eq_getElem hl
  have h1 := List.getElem?_eq_getElem hl2
  have c0 := zero_slice (zero_cell B (hc 0 _ h0 0 _ rfl))
  have e := (h.el 0 _ _ h0 h1).st.sr.ln
  have h2 := hp _ (List.getElem_mem hl2)
  simp only [pathB, Bool.and_eq_true, decide_eq_true_eq] at h2
  omega
theorem RR.far {w : World} {g : Nat} {t : TypeId} {b : RA} {S : Ro} (h : RR w b S) (hp : ∀ q ∈ S.ks, pathB q.p = true) (B : Blk w g t (rarr RA.zero Ro.zero)) (a : RA) (R : Ro) : RR (setR w g a R) b S := ⟨h.sp, h.ks.far hp B a R, h.cs.far B a R⟩

theorem ordL_path : ∀ (ks done : List Od), ordL done ks = 0 → ∀ q ∈ ks, pathB q.p = true
  | [], _, _, q, h => by simp at h
  | o :: r, done, h, q, hq => by
    unfold ordL at h
    split at h
    · cases h
    · rename_i h1
      split at h
      · cases h
      · rcases List.mem_cons.1 hq with rfl | h2
        · simpa using h1
        · exact ordL_path r _ h q h2
theorem keyE_path {ks : List Od} {ha : Bool} (h : keyE ks ha = 0) : ∀ q ∈ ks, pathB q.p = true := by
  unfold keyE at h
  split at h
  · rename_i h1
    exact absurd h h1
  · rename_i h1
    have h1 : ordE ks = 0 := by simpa using h1
    unfold ordE at h1
    split at h1
    · cases h1
    · exact ordL_path ks [] h1
theorem VR.path {R : Ro} (h : VR R) : ∀ q ∈ R.ks, pathB q.p = true := keyE_path h.ke

/-- the change of the law -/
def changeR (R : Ro) (k : Int) (key : ByteArray) (z : Int) (j : Bool) : Ro × Int := if k = 0 then splitR R key else if k = 1 then joinR R key else if k = 2 then giveR R key z else markR R key j
theorem splitR_ks (R : Ro) (key : ByteArray) : (splitR R key).1.ks = R.ks ∨ (splitR R key).1.ks = [] := by
  unfold splitR
  repeat' split
  all_goals first | exact .inr rfl | exact .inl rfl
theorem joinR_ks (R : Ro) (key : ByteArray) : (joinR R key).1.ks = R.ks ∨ (joinR R key).1.ks = [] := by
  unfold joinR
  repeat' split
  all_goals first | exact .inr rfl | exact .inl rfl
theorem giveR_ks (R : Ro) (key : ByteArray) (z : Int) : (giveR R key z).1.ks = R.ks ∨ (giveR R key z).1.ks = [] := by
  unfold giveR
  repeat' split
  all_goals first | exact .inr rfl | exact .inl rfl
theorem markR_ks (R : Ro) (key : ByteArray) (j : Bool) : (markR R key j).1.ks = R.ks ∨ (markR R key j).1.ks = [] := by
  unfold markR
  repeat' split
  all_goals first | exact .inr rfl | exact .inl rfl
theorem path_of {ks l : List Od} (h : l = ks ∨ l = []) (hp : ∀ q ∈ ks, pathB q.p = true) : ∀ q ∈ l, pathB q.p = true := by
  rcases h with rfl | rfl
  · exact hp
  · intro q hq; simp at hq

end Go.Proofs.YtblepmmibhphhaaGreatDoor

namespace Go.Proofs.YtblepmmibhphhaaGreatDoor
open Go.RowKit

/-- the same chunk apart from its version -/
def likeC (a b : Ch) : Prop := a.lo.toList = b.lo.toList ∧ a.hi.toList = b.hi.toList ∧ a.sh = b.sh ∧ a.ju = b.ju
theorem idx_beg {l : List Ch} {a b : Option BK} (h : Cn a b l) {key : ByteArray} {i : Nat} {c : Ch} (hi : l[i]? = some c) (hk : begB key c = true) : idxI (begB key) l = (i : Nat) :=
  idxI_lt hi hk fun _ d hj hd => h.un key hj hi (begB_in hd (h.lt d (List.mem_of_getElem? hj))) (begB_in hk (h.lt c (List.mem_of_getElem? hi)))
theorem nx_of' {v : Int} (h : v ≤ 2305843009213693952) (h1 : 1 ≤ v) : nx v = v + 1 := by unfold nx wrap64; omega
theorem repl_two {l : List Ch} {i : Nat} {c a b : Ch} (hi : l[i]? = some c) : (repl l i 1 [a, b])[i]? = some a ∧ (repl l i 1 [a, b])[i + 1]? = some b := by
  have hl := (List.getElem?_eq_some_iff.1 hi).1
  have ht : (l.take i).length = i := by rw [List.length_take, Nat.min_eq_left (by omega)]
  unfold repl
  constructor
  · rw [List.append_assoc, List.getElem?_append_right (by omega), ht, Nat.sub_self]; rfl
  · rw [List.append_assoc, List.getElem?_append_right (by omega), ht, show i + 1 - i = 1 by omega]; rfl
theorem repl_back {l : List Ch} {i : Nat} {c a b d : Ch} (hi : l[i]? = some c) : repl (repl l i 1 [a, b]) i 2 [d] = repl l i 1 [d] := by
  have hl := (List.getElem?_eq_some_iff.1 hi).1
  have ht : (l.take i).length = i := by rw [List.length_take, Nat.min_eq_left (by omega)]
  have e1 : (repl l i 1 [a, b]).take i = l.take i := by
    unfold repl
    rw [List.append_assoc, List.take_append_of_le_length (by omega), List.take_of_length_le (by omega)]
  have e2 : (repl l i 1 [a, b]).drop (i + 2) = l.drop (i + 1) := by
    unfold repl
    rw [show i + 2 = (l.take i ++ [a, b]).length by simp; omega, List.drop_left]
  rw [repl, e1, e2]
  rfl
theorem back_law {R : Ro} {key : ByteArray} (h : VR R) (hv : R.ver ≤ 1152921504606846976) (he : (splitR R key).2 = 0) :
    ∃ B, joinR (splitR R key).1 key = (B, 0) ∧ B.cs.length = R.cs.length ∧ ∀ (i : Nat) (c d : Ch), R.cs[i]? = some c → B.cs[i]? = some d → likeC c d := by
  rcases split_ways h hv with ⟨h1, _⟩ | ⟨i, c, hi, hin, hne, hlo, hju, hlen, hS⟩
  · exact absurd he h1
  · obtain ⟨hVS, _⟩ := split_ok h hi hin hne hlo hlen
    rw [hS]
    obtain ⟨r1, r2⟩ := repl_two (a := ⟨c.lo, key, c.sh, R.ver + 1, c.ju⟩) (b := ⟨key, c.hi, c.sh, R.ver + 1, c.ju⟩) hi
    have hidx : idxI (begB key) (repl R.cs i 1 [⟨c.lo, key, c.sh, R.ver + 1, c.ju⟩, ⟨key, c.hi, c.sh, R.ver + 1, c.ju⟩]) = ((i + 1 : Nat) : Int) := idx_beg hVS.cn r2 (by unfold begB; simp)
    have hnx : nx (R.ver + 1) = R.ver + 1 + 1 := nx_of' (by omega) (by have := h.ver; omega)
    refine ⟨⟨R.sp, R.ks, R.ha, R.ep, R.ver + 1 + 1, repl R.cs i 1 [⟨c.lo, c.hi, c.sh, R.ver + 1 + 1, c.ju⟩]⟩, ?_, ?_, ?_⟩
    · unfold joinR
      simp only
      rw [hidx, if_neg (by omega), Int.toNat_natCast, r2, show i + 1 - 1 = i by omega, r1]
      simp only
      rw [if_neg (by simp [hju]), hnx, repl_back hi]
    · show (repl _ _ _ _).length = _
      rw [← set_repl (getElem?_lt hi), List.length_set]
    · intro j x y hx hy
      have hy2 : (repl R.cs i 1 [⟨c.lo, c.hi, c.sh, R.ver + 1 + 1, c.ju⟩])[j]? = some y := hy
      clear hy
      rw [repl_get (getElem?_lt hi)] at hy2
      split at hy2
      · rename_i e
        subst e
        rw [hi] at hx
        obtain rfl := Option.some.inj hx
        obtain rfl := Option.some.inj hy2
        exact ⟨rfl, rfl, rfl, rfl⟩
      · rw [hx] at hy2
        obtain rfl := Option.some.inj hy2
        exact ⟨rfl, rfl, rfl, rfl⟩

/-- after Give the versions of both shards are new -/
theorem give_vers {R : Ro} {z : Int} (h : VR R) {i : Nat} {c : Ch} (hi : R.cs[i]? = some c) (h0 : 0 ≤ z) (h8 : z < 8) (hne : c.sh ≠ z) :
    verR c.sh (touch (repl R.cs i 1 [⟨c.lo, c.hi, z, R.ver + 1, c.ju⟩]) c.sh (R.ver + 1)) ≠ verR c.sh R.cs ∧ verR z (touch (repl R.cs i 1 [⟨c.lo, c.hi, z, R.ver + 1, c.ju⟩]) c.sh (R.ver + 1)) = R.ver + 1 := by
  have hm := List.mem_of_getElem? hi
  have hg := h.good c hm
  have hG := (give_ok h hi h0 h8).good
  have hll := getElem?_lt hi
  obtain ⟨a1, a2⟩ := verR_ways c.sh R.cs
  have hv1 : 1 ≤ verR c.sh R.cs := by have := a1 c hm rfl; omega
  have hv2 : verR c.sh R.cs ≤ R.ver := by
    rcases a2 with a2 | ⟨d, hd, _, a2⟩
    · have := h.ver; omega
    · have := h.good d hd; omega
  have hGi : (⟨c.lo, c.hi, z, R.ver + 1, c.ju⟩ : Ch) ∈ touch (repl R.cs i 1 [⟨c.lo, c.hi, z, R.ver + 1, c.ju⟩]) c.sh (R.ver + 1) := by
    have hri : (repl R.cs i 1 [⟨c.lo, c.hi, z, R.ver + 1, c.ju⟩])[i]? = some ⟨c.lo, c.hi, z, R.ver + 1, c.ju⟩ := by rw [repl_get hll, if_pos rfl]
    rcases touch_get (l := repl R.cs i 1 [⟨c.lo, c.hi, z, R.ver + 1, c.ju⟩]) (s := c.sh) (v := R.ver + 1) i with h1 | ⟨d, h1, h2, _⟩
    · rw [hri] at h1
      exact List.mem_of_getElem? h1
    · rw [hri] at h1
      have := Option.some.inj h1
      rw [← this] at h2
      exact absurd h2.symm hne
  constructor
  · rcases touch_ways (repl R.cs i 1 [⟨c.lo, c.hi, z, R.ver + 1, c.ju⟩]) c.sh (R.ver + 1) with ⟨h1, h2⟩ | ⟨j, d, h1, h2, h3⟩
    · rw [h1]
      rcases (verR_ways c.sh (repl R.cs i 1 [⟨c.lo, c.hi, z, R.ver + 1, c.ju⟩])).2 with h4 | ⟨d, hd, hs, _⟩
      · omega
      · exact absurd hs (h2 d hd)
    · have hmem : (⟨d.lo, d.hi, d.sh, R.ver + 1, d.ju⟩ : Ch) ∈ touch (repl R.cs i 1 [⟨c.lo, c.hi, z, R.ver + 1, c.ju⟩]) c.sh (R.ver + 1) := by
        rw [h3]
        exact List.mem_of_getElem? (by rw [repl_get (getElem?_lt h1), if_pos rfl])
      have := (verR_ways c.sh _).1 _ hmem h2
      have this : R.ver + 1 ≤ _ := this
      omega
  · have b1 := (verR_ways z _).1 _ hGi rfl
    have b1 : R.ver + 1 ≤ _ := b1
    rcases (verR_ways z (touch (repl R.cs i 1 [⟨c.lo, c.hi, z, R.ver + 1, c.ju⟩]) c.sh (R.ver + 1))).2 with h4 | ⟨d, hd, _, h4⟩
    · have := h.ver; omega
    · have := (hG d hd).2.2.2
      have this : d.ver ≤ R.ver + 1 := this
      omega

end Go.Proofs.YtblepmmibhphhaaGreatDoor

namespace Go.Proofs.YtblepmmibhphhaaGreatDoor
open Go.RowKit

theorem sees {l : List Ch} (h : Cn (some []) none l) (kk : ByteArray) : ∃ (i : Nat) (c : Ch), l[i]? = some c ∧ inB kk c = true ∧ idxI (inB kk) l = (i : Nat) := by
  obtain ⟨c, hc, hk⟩ := Cn.ex kk h (bl_nil _) trivial
  obtain ⟨i, hi⟩ := List.mem_iff_getElem?.1 hc
  exact ⟨i, c, hi, hk, idxI_lt hi hk fun j d hj hd => h.un kk hj hi hd hk⟩
/-- what ChunksKeeps asks of a change that was not refused -/
structure KeepOk (R S : Ro) (k : Int) (key : ByteArray) (z : Int) (kk : ByteArray) : Prop where
  vr : VR S
  sp : S.sp = R.sp
  ep : S.ep = R.ep
  ver : S.ver = R.ver + 1 ∨ (k ≠ 0 ∧ k ≠ 1 ∧ k ≠ 2 ∧ S = R)
  sh : ∃ (i : Nat) (c : Ch) (m : Nat) (d : Ch), R.cs[i]? = some c ∧ idxI (inB kk) R.cs = (i : Nat) ∧ S.cs[m]? = some d ∧ idxI (inB kk) S.cs = (m : Nat) ∧ d.sh = (if k = 2 ∧ c.lo.toList = key.toList then z else c.sh)
theorem keeps_sh {R S : Ro} (h : VR R) (hS : VR S) (hk : Keeps R.cs S.cs) {k : Int} (h2 : k ≠ 2) (key : ByteArray) (z : Int) (kk : ByteArray) :
    ∃ (i : Nat) (c : Ch) (m : Nat) (d : Ch), R.cs[i]? = some c ∧ idxI (inB kk) R.cs = (i : Nat) ∧ S.cs[m]? = some d ∧ idxI (inB kk) S.cs = (m : Nat) ∧ d.sh = (if k = 2 ∧ c.lo.toList = key.toList then z else c.sh) := by
  obtain ⟨i, c, hi, hc, ei⟩ := sees h.cn kk
  obtain ⟨m, d, hm, hd, em⟩ := sees hS.cn kk
  refine ⟨i, c, m, d, hi, ei, hm, em, ?_⟩
  rw [if_neg fun x => h2 x.1]
  obtain ⟨c', hc', hk', hs'⟩ := hk kk d (List.mem_of_getElem? hm) hd
  obtain ⟨i', hi'⟩ := List.mem_iff_getElem?.1 hc'
  obtain rfl := h.cn.un kk hi' hi hk' hc
  rw [hi] at hi'
  obtain rfl := Option.some.inj hi'
  exact hs'.symm
theorem keeps_law {R : Ro} {k : Int} {key : ByteArray} {z : Int} {j : Bool} (kk : ByteArray) (h : VR R) (hv : R.ver ≤ 1152921504606846976) :
    ((changeR R k key z j).2 ≠ 0 ∧ (changeR R k key z j).1 = Ro.zero) ∨ ((changeR R k key z j).2 = 0 ∧ KeepOk R (changeR R k key z j).1 k key z kk) := by
  unfold changeR
  by_cases h0 : k = 0
  · rw [if_pos h0]
    rcases split_ways (key := key) h hv with hw | ⟨i, c, hi, hin, hne, hlo, hju, hlen, hS⟩
    · exact .inl hw
    · obtain ⟨hV, hK⟩ := split_ok h hi hin hne hlo hlen
      rw [hS]
      exact .inr ⟨rfl, hV, rfl, rfl, .inl rfl, keeps_sh h hV hK (by omega) key z kk⟩
  by_cases h1 : k = 1
  · rw [if_neg h0, if_pos h1]
    rcases join_ways (key := key) h hv with hw | ⟨i, a, b, hi, hj, hlo, hs, hja, hjb, hS⟩
    · exact .inl hw
    · obtain ⟨hV, hK⟩ := join_ok h hi hj hs
      rw [hS]
      exact .inr ⟨rfl, hV, rfl, rfl, .inl rfl, keeps_sh h hV hK (by omega) key z kk⟩
  by_cases h2 : k = 2
  · rw [if_neg h0, if_neg h1, if_pos h2]
    rcases give_ways (key := key) (z := z) h hv with hw | ⟨i, c, hi, hlo, z0, z8, hne, hju, hS⟩
    · exact .inl hw
    · have hV := give_ok h hi z0 z8
      rw [hS]
      refine .inr ⟨rfl, hV, rfl, rfl, .inl rfl, ?_⟩
      obtain ⟨m, d, hm, hd, em⟩ := sees hV.cn kk
      obtain ⟨e, he, e1, e2, e3⟩ := give_get hi m d hm
      have hin : inB kk e = true := by rw [← inB_alike e1 e2]; exact hd
      refine ⟨m, e, m, d, he, idxI_lt he hin fun j x hj hx => h.cn.un kk hj he hx hin, hm, em, ?_⟩
      rw [e3]
      by_cases hmi : m = i
      · subst hmi
        rw [hi] at he
        obtain rfl := Option.some.inj he
        rw [if_pos rfl, if_pos ⟨h2, hlo⟩]
      · rw [if_neg hmi, if_neg]
        rintro ⟨_, hl⟩
        refine hmi ?_
        have hb : begB key e = true := by unfold begB; rw [hl]; simp
        have hb2 : begB key c = true := by unfold begB; rw [hlo]; simp
        exact h.cn.un key he hi (begB_in hb (h.cn.lt e (List.mem_of_getElem? he))) (begB_in hb2 (h.cn.lt c (List.mem_of_getElem? hi)))
  · rw [if_neg h0, if_neg h1, if_neg h2]
    rcases mark_ways (key := key) (j := j) h hv with hw | hw | ⟨i, c, hi, hlo, hS⟩
    · exact .inl hw
    · rw [hw]
      refine .inr ⟨rfl, h, rfl, rfl, .inr ⟨h0, h1, h2, rfl⟩, ?_⟩
      exact keeps_sh h h (fun key c hc hk => ⟨c, hc, hk, rfl⟩) h2 key z kk
    · obtain ⟨hV, hK⟩ := mark_ok (j := j) h hi
      rw [hS]
      exact .inr ⟨rfl, hV, rfl, rfl, .inl rfl, keeps_sh h hV hK h2 key z kk⟩

end Go.Proofs.YtblepmmibhphhaaGreatDoor

