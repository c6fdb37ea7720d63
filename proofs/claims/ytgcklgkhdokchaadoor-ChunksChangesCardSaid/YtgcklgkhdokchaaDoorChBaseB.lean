/- The contracts of slices.IndexFunc at chunks, of the functions that are handed to it, and of begins and Find. · The contracts of chunks.copied and chunks.changed. · The contract of chunks.changed. · The contracts of slices.Insert and slices.Delete at chunks. · The contract of slices.Delete at chunks: one chunk is taken out in place. · Routes in a variable, whose chunks lie in a row of the call's own. · The contract of chunks.Split. -/
import Derived.Test.YtgcklgkhdokchaaDoorChBaseA
import Derived.Test.YtgcklgkhdokchaaDoorKit6
import Derived.Shelf.Spec.SlicesInsertGrow
namespace Go.Proofs.YtgcklgkhdokchaaDoor
open Go.RowKit

set_option maxRecDepth 100000 in
set_option maxHeartbeats 1000000 in
theorem indexC_any (f : FuncId) (m : Nat) (p : Ch → Bool) (l : List Ch) (A : Option Addr) (n c : Nat) (w : World) (h : CS w A n c l)
    (hent : ∀ args w, (callFunc f args).run Tryd.prog w = .ok (.enter f args) w)
    (hs : ∀ (x : Ch) (wr : World), Below w.heap.size w wr → Calls Tryd.prog f #[aggC x, .pointer (some ⟨m, 0, none⟩)] wr fun e w' => e = .returned (.bool (p x)) ∧ Below wr.heap.size wr w') :
    Calls Tryd.prog 36 #[.slice A n c, .func (.func f) #[] #[.pointer (some ⟨m, 0, none⟩)]] w fun e w' => e = .returned (.int .i64 (idxI p l)) ∧ Below w.heap.size w w' := by
  have hz : n ≤ 140737488355328 := by have := h.sz; unfold reach at this; omega
  have H := Lib.hid h
  have HS := Lib.hid hs
  clear h hs
  go_enter Tryd.func36, Tryd.ntmps36
  go_wp2_with fail
  go_loopw [8] (fun v wr => ∃ i : Nat, i ≤ n ∧ v = .int .i64 i ∧ idxI p l = idxFrom p (l.drop i) i ∧ Below w.heap.size w wr) (fun v _ => n - (intOf v).toNat)
  case atStart => exact ⟨0, Nat.zero_le _, rfl, rfl, Below.refl _ _⟩
  case round =>
    obtain ⟨i, hi, rfl, ha, hbel⟩ := hrel
    have HA := Lib.hid ha
    have HB := Lib.hid hbel
    clear ha
    by_cases hlt : i < n
    · obtain ⟨b, off, x, hA, hb, hx, e0, e1, e2, e3, e4⟩ := H.out.sr.at5 hlt
      subst hA
      have HX := Lib.hid (idxFrom_at (p := p) hx)
      have g0 := (hbel.cell (p := ⟨b, off + i * 5, none⟩) hb).trans e0
      have g1 := (hbel.cell (p := ⟨b, off + i * 5 + 1, none⟩) hb).trans e1
      have g2 := (hbel.cell (p := ⟨b, off + i * 5 + 2, none⟩) hb).trans e2
      have g3 := (hbel.cell (p := ⟨b, off + i * 5 + 3, none⟩) hb).trans e3
      have g4 := (hbel.cell (p := ⟨b, off + i * 5 + 4, none⟩) hb).trans e4
      clear hx e0 e1 e2 e3 e4 hbel
      go_wp2_with fail
      refine (HS.out x _ HB.out).mono ?_
      rintro e w1 ⟨rfl, hb1⟩
      have HB1 := Lib.hid (HB.out.step' hb1)
      clear hb1 g0 g1 g2 g3 g4
      cases hq : p x
      · have HF : Hid (idxI p l = idxFrom p (l.drop (i + 1)) (i + 1)) := by rw [Hid, HA.out, HX.out, hq]; rfl
        go_wp2_with fail
        go_roundw
        case rel => exact ⟨i + 1, by omega, by go_num, HF.out, HB1.out⟩
        case measure => simp [intOf]; omega
      · have HF : Hid (idxI p l = (i : Int)) := by rw [Hid, HA.out, HX.out, hq]; rfl
        go_wp2_with fail
        go_ret
        exact ⟨by rw [HF.out]; rfl, HB1.out⟩
    · have HF : Hid (idxI p l = -1) := by rw [Hid, HA.out]; exact idxFrom_end (by have := H.out.ln; omega)
      clear hbel
      go_wp2_with fail
      go_ret
      exact ⟨by rw [HF.out]; rfl, HB.out⟩

theorem beg1_any (x : Ch) (m : Nat) (key : ByteArray) (w : World) (h : w.cell? ⟨m, 0, none⟩ = some (.string key)) :
    Calls Tryd.prog 52 #[aggC x, .pointer (some ⟨m, 0, none⟩)] w fun e w' => e = .returned (.bool (begB key x)) ∧ Below w.heap.size w w' := by
  have hm := World.block_lt_of_cell? w _ h
  go_enter Tryd.func52, Tryd.ntmps52
  go_wp2_with fail
  go_ret
  exact ⟨rfl, (Below.refl _ _).alloc (Nat.le_refl _) _⟩
theorem give1_any (x : Ch) (m : Nat) (s : Int) (w : World) (h : w.cell? ⟨m, 0, none⟩ = some (.int .i64 s)) :
    Calls Tryd.prog 38 #[aggC x, .pointer (some ⟨m, 0, none⟩)] w fun e w' => e = .returned (.bool (shB s x)) ∧ Below w.heap.size w w' := by
  have hm := World.block_lt_of_cell? w _ h
  go_enter Tryd.func38, Tryd.ntmps38
  go_wp2_with fail
  go_ret
  exact ⟨rfl, (Below.refl _ _).alloc (Nat.le_refl _) _⟩
set_option maxHeartbeats 1000000 in
theorem find1_any (x : Ch) (m : Nat) (key : ByteArray) (w : World) (h : w.cell? ⟨m, 0, none⟩ = some (.string key)) :
    Calls Tryd.prog 37 #[aggC x, .pointer (some ⟨m, 0, none⟩)] w fun e w' => e = .returned (.bool (inB key x)) ∧ Below w.heap.size w w' := by
  have hm := World.block_lt_of_cell? w _ h
  cases h1 : Op.bytesLess key.toList x.lo.toList
  · cases h2 : (x.hi.toList == [])
    · have HV : Hid (inB key x = Op.bytesLess key.toList x.hi.toList) := by unfold Hid inB; rw [h1, h2]; rfl
      go_enter Tryd.func37, Tryd.ntmps37
      go_wp2_with fail
      go_ret
      exact ⟨by rw [HV.out]; rfl, (Below.refl _ _).alloc (Nat.le_refl _) _⟩
    · have HV : Hid (inB key x = true) := by unfold Hid inB; rw [h1, h2]; rfl
      go_enter Tryd.func37, Tryd.ntmps37
      go_wp2_with fail
      go_ret
      exact ⟨by rw [HV.out]; rfl, (Below.refl _ _).alloc (Nat.le_refl _) _⟩
  · have HV : Hid (inB key x = false) := by unfold Hid inB; rw [h1]; rfl
    go_enter Tryd.func37, Tryd.ntmps37
    go_wp2_with fail
    go_ret
    exact ⟨by rw [HV.out]; rfl, (Below.refl _ _).alloc (Nat.le_refl _) _⟩

set_option maxRecDepth 100000 in
theorem begins_any (R : Ro) (a : RA) (key : ByteArray) (w : World) (h : RR w a R) :
    Calls Tryd.prog 32 #[rval a R, .string key] w fun e w' => e = .returned (.int .i64 (idxI (begB key) R.cs)) ∧ Below w.heap.size w w' := by
  have HA2 := Lib.hid (((Below.refl w.heap.size w).alloc (Nat.le_refl _) (Obj.cells (rarr a R) 30)).alloc (by simp) (Obj.cells #[.string key] 9))
  have HB : Hid (Blk ((w.alloc (Obj.cells (rarr a R) 30)).alloc (Obj.cells #[.string key] 9)) (w.heap.size + 1) 9 #[.string key]) := Blk.new_at (by simp)
  have H := Lib.hid h
  clear h
  go_enter Tryd.func32, Tryd.ntmps32
  go_wp2_with fail
  refine (indexC_any _ _ (begB key) R.cs _ _ _ _ (H.out.cs.step HA2.out) (fun _ _ => rfl) fun x wr hb => beg1_any x _ key wr (((HB.out.step hb).cell 0))).mono ?_
  rintro e w1 ⟨rfl, hb1⟩
  go_wp2_with fail
  go_ret
  exact ⟨rfl, HA2.out.step' hb1⟩
set_option maxRecDepth 100000 in
theorem find_any (R : Ro) (a : RA) (key : ByteArray) (w : World) (h : RR w a R) :
    Calls Tryd.prog 18 #[rval a R, .string key] w fun e w' => e = .returned (.int .i64 (idxI (inB key) R.cs)) ∧ Below w.heap.size w w' := by
  have HA2 := Lib.hid (((Below.refl w.heap.size w).alloc (Nat.le_refl _) (Obj.cells (rarr a R) 30)).alloc (by simp) (Obj.cells #[.string key] 9))
  have HB : Hid (Blk ((w.alloc (Obj.cells (rarr a R) 30)).alloc (Obj.cells #[.string key] 9)) (w.heap.size + 1) 9 #[.string key]) := Blk.new_at (by simp)
  have H := Lib.hid h
  clear h
  go_enter Tryd.func18, Tryd.ntmps18
  go_wp2_with fail
  refine (indexC_any _ _ (inB key) R.cs _ _ _ _ (H.out.cs.step HA2.out) (fun _ _ => rfl) fun x wr hb => find1_any x _ key wr (((HB.out.step hb).cell 0))).mono ?_
  rintro e w1 ⟨rfl, hb1⟩
  go_wp2_with fail
  go_ret
  exact ⟨rfl, HA2.out.step' hb1⟩

end Go.Proofs.YtgcklgkhdokchaaDoor

namespace Go.Proofs.YtgcklgkhdokchaaDoor
open Go.RowKit

theorem flat_setj {α : Type} {rec : α → List Value} {s : Nat} (hs : ∀ a, (rec a).length = s) : ∀ {xs : List α} {i j : Nat} {a a' : α} {v : Value}, xs[i]? = some a → j < s → (rec a).set j v = rec a' → (flat rec xs).set (i * s + j) v = flat rec (xs.set i a') := by
  intro xs
  induction xs with
  | nil => intro i j a a' v h; simp at h
  | cons b l ih =>
    intro i j a a' v h1 hj h2
    have e : ∀ (y : α) (t : List α), flat rec (y :: t) = rec y ++ flat rec t := fun _ _ => rfl
    cases i with
    | zero =>
      simp at h1
      subst h1
      rw [Nat.zero_mul, Nat.zero_add, List.set_cons_zero, e, e, List.set_append_left _ _ (by rw [hs]; exact hj), h2]
    | succ i =>
      rw [List.set_cons_succ, e, e, List.set_append_right _ _ (by rw [hs, Nat.add_mul]; omega), hs, show (i + 1) * s + j - s = i * s + j by rw [Nat.add_mul]; omega, ih (by simpa using h1) hj h2]
/-- a store into a row of the call's own -/
theorem own_set {w : World} {base : Nat} {e : TypeId} {size n c g : Nat} {xs : List Value} (h : w.ownsRow base e size (.slice (some ⟨g, 0, none⟩) n c) n xs) (k : Nat) (u : Value) :
    (w.setCell ⟨g, k, none⟩ u).ownsRow base e size (.slice (some ⟨g, 0, none⟩) n c) n (xs.set k u) := by
  refine ⟨by rw [List.length_set]; exact h.1, ?_⟩
  rcases h.2 with ⟨h1, _⟩ | ⟨g', cap, cur, hv, hg, hh, hnc, hm, hsz, htk⟩
  · cases h1
  · injection hv with h1 h2 h3
    injection h1 with h1
    injection h1 with h1
    subst h1 h3
    have hb : Blk w g e cur := hh
    refine .inr ⟨g, c, cur.setIfInBounds k u, rfl, hg, hb.set_ k u, hnc, hm, by simpa using hsz, ?_⟩
    rw [Array.toList_setIfInBounds, List.take_set, htk]
theorem own_cell {w : World} {base : Nat} {e : TypeId} {size n c g : Nat} {xs : List Value} (h : w.ownsRow base e size (.slice (some ⟨g, 0, none⟩) n c) n xs) {k : Nat} {u : Value} (hk : xs[k]? = some u) : w.cell? ⟨g, k, none⟩ = some u ∧ w.frozen? ⟨g, k, none⟩ = false := by
  have := h.cells (g := g) rfl k u hk
  rw [addr_add, Nat.zero_add] at this
  refine ⟨this, ?_⟩
  rcases h.2 with ⟨h1, _⟩ | ⟨g', cap, cur, hv, hg, hh, _⟩
  · cases h1
  · injection hv with h1
    injection h1 with h1
    injection h1 with h1
    subst h1
    exact Blk.frozen (t := e) (cs := cur) hh k
theorem own_mono {w : World} {base base' : Nat} {e : TypeId} {size n : Nat} {v : Value} {xs : List Value} (h : w.ownsRow base e size v n xs) (hb : base' ≤ base) : w.ownsRow base' e size v n xs := by
  refine ⟨h.1, ?_⟩
  rcases h.2 with h2 | ⟨g, cap, cur, hv, hg, hr⟩
  · exact .inl h2
  · exact .inr ⟨g, cap, cur, hv, by omega, hr⟩
theorem own_far {w : World} {base : Nat} {e : TypeId} {size n : Nat} {v : Value} {xs : List Value} (h : w.ownsRow base e size v n xs) {p : Addr} (hp : v.ownBlock ≠ some p.block) (u : Value) : (w.setCell p u).ownsRow base e size v n xs :=
  own_keep h fun g hg => Below.heap_setCell w p u g (fun e => hp (by rw [← e]; exact hg))

/-- footprints -/
structure STF (F : Nat → Prop) (w : World) (A : Option Addr) (n c : Nat) (l : List ByteArray) : Prop where
  st : ST w A n c l
  blk : 0 < n → ∀ b off, A = some ⟨b, off, none⟩ → F b
theorem ST.keep {w w' : World} {A : Option Addr} {n c : Nat} {l : List ByteArray} (h : ST w A n c l) (hs : w.heap.size ≤ w'.heap.size) (hk : 0 < n → ∀ b off, A = some ⟨b, off, none⟩ → w'.heap[b]? = w.heap[b]?) : ST w' A n c l := by
  refine ⟨⟨h.sr.ln, h.sr.lc, fun hn => ?_⟩, h.sz, h.el⟩
  obtain ⟨b, off, h1, h2, h3⟩ := h.sr.el hn
  exact ⟨b, off, h1, by omega, fun i a hi j v hj => (World.cell?_of_block (w := w) (a := ⟨b, off + i * 1 + j, none⟩) (hk hn b off h1)).trans (h3 i a hi j v hj)⟩
theorem STF.keep {F G : Nat → Prop} {w w' : World} {A : Option Addr} {n c : Nat} {l : List ByteArray} (h : STF F w A n c l) (hs : w.heap.size ≤ w'.heap.size) (hk : ∀ b, F b → b < w.heap.size → G b ∧ w'.heap[b]? = w.heap[b]?) : STF G w' A n c l := by
  have hlt : 0 < n → ∀ b off, A = some ⟨b, off, none⟩ → b < w.heap.size := by
    intro hn b off e
    obtain ⟨b', off', h1, h2, _⟩ := h.st.sr.el hn
    rw [e] at h1
    cases h1
    exact h2
  exact ⟨h.st.keep hs fun hn b off e => (hk b (h.blk hn b off e) (hlt hn b off e)).2, fun hn b off e => (hk b (h.blk hn b off e) (hlt hn b off e)).1⟩
structure ORF (F : Nat → Prop) (w : World) (o : OC) (q : Od) : Prop where
  d : o.d = q.d
  st : STF F w o.A o.n o.c q.p
theorem ORF.keep {F G : Nat → Prop} {w w' : World} {o : OC} {q : Od} (h : ORF F w o q) (hs : w.heap.size ≤ w'.heap.size) (hk : ∀ b, F b → b < w.heap.size → G b ∧ w'.heap[b]? = w.heap[b]?) : ORF G w' o q := ⟨h.d, h.st.keep hs hk⟩
def KSF (F : Nat → Prop) (w : World) (A : Option Addr) (n c : Nat) (ks : List Od) : Prop :=
  ∃ os : List OC, SR 2 recO w A n c os ∧ n * 32 ≤ reach ∧ os.length = ks.length ∧ (0 < n → ∀ b off, A = some ⟨b, off, none⟩ → F b) ∧ ∀ (i : Nat) (o : OC) (q : Od), os[i]? = some o → ks[i]? = some q → ORF F w o q
theorem KSF.ks {F : Nat → Prop} {w : World} {A : Option Addr} {n c : Nat} {ks : List Od} (h : KSF F w A n c ks) : KS w A n c ks := by
  obtain ⟨os, h1, h2, h3, h4, h5⟩ := h
  exact ⟨os, h1, h2, h3, fun i o q hi hq => ⟨(h5 i o q hi hq).d, (h5 i o q hi hq).st.st⟩⟩
theorem KSF.keep {F G : Nat → Prop} {w w' : World} {A : Option Addr} {n c : Nat} {ks : List Od} (h : KSF F w A n c ks) (hs : w.heap.size ≤ w'.heap.size) (hk : ∀ b, F b → b < w.heap.size → G b ∧ w'.heap[b]? = w.heap[b]?) : KSF G w' A n c ks := by
  obtain ⟨os, h1, h2, h3, h4, h5⟩ := h
  have hlt : 0 < n → ∀ b off, A = some ⟨b, off, none⟩ → b < w.heap.size := by
    intro hn b off e
    obtain ⟨b', off', k1, k2, _⟩ := h1.el hn
    rw [e] at k1
    cases k1
    exact k2
  refine ⟨os, ⟨h1.ln, h1.lc, fun hn => ?_⟩, h2, h3, fun hn b off e => (hk b (h4 hn b off e) (hlt hn b off e)).1, fun i o q hi hq => (h5 i o q hi hq).keep hs hk⟩
  obtain ⟨b, off, k1, k2, k3⟩ := h1.el hn
  exact ⟨b, off, k1, by omega, fun i a hi j v hj => (World.cell?_of_block (w := w) (a := ⟨b, off + i * 2 + j, none⟩) (hk b (h4 hn b off k1) k2).2).trans (k3 i a hi j v hj)⟩
theorem KS.toF {w : World} {A : Option Addr} {n c : Nat} {ks : List Od} (h : KS w A n c ks) : KSF (fun b => b < w.heap.size) w A n c ks := by
  obtain ⟨os, h⟩ := h
  refine ⟨os, h.sr, h.sz, h.ln, fun hn b off e => ?_, fun i o q hi hq => ⟨(h.el i o q hi hq).d, (h.el i o q hi hq).st, fun hn b off e => ?_⟩⟩
  · obtain ⟨b', off', k1, k2, _⟩ := h.sr.el hn
    rw [e] at k1
    cases k1
    exact k2
  · obtain ⟨b', off', k1, k2, _⟩ := (h.el i o q hi hq).st.sr.el hn
    rw [e] at k1
    cases k1
    exact k2

/-- six stores -/
abbrev setR (w : World) (g : Nat) (a : RA) (R : Ro) : World :=
  (((((w.setCell ⟨g, 0, none⟩ (.string R.sp)).setCell ⟨g, 1, none⟩ (.slice a.KA a.kn a.kc)).setCell ⟨g, 2, none⟩ (.bool R.ha)).setCell ⟨g, 3, none⟩ (.int .i64 R.ep)).setCell ⟨g, 4, none⟩ (.int .i64 R.ver)).setCell ⟨g, 5, none⟩ (.slice a.CA a.cn a.cc)
theorem Blk.putR {w : World} {g : Nat} {t : TypeId} {a b : RA} {R S : Ro} (h : Blk w g t (rarr b S)) : Blk (setR w g a R) g t (rarr a R) := (((((h.set_ 0 _).set_ 1 _).set_ 2 _).set_ 3 _).set_ 4 _).set_ 5 _
theorem heap_setR (w : World) (g : Nat) (a : RA) (R : Ro) (b : Nat) (h : b ≠ g) : (setR w g a R).heap[b]? = w.heap[b]? := by
  unfold setR
  iterate 6 rw [Below.heap_setCell _ _ _ b h]
theorem size_setR (w : World) (g : Nat) (a : RA) (R : Ro) : (setR w g a R).heap.size = w.heap.size := by simp [setR, World.setCell]
theorem below_setR {B : Nat} {a0 w : World} (h : Below B a0 w) {g : Nat} (hB : B ≤ g) (a : RA) (R : Ro) : Below B a0 (setR w g a R) :=
  (((((h.setCell hB _).setCell hB _).setCell hB _).setCell hB _).setCell hB _).setCell hB _

theorem load_ro (g : Nat) (a : RA) (R : Ro) (W : World) (q : Blk W g 30 (rarr a R)) : (loadVar 30 ⟨g, 0, none⟩).run Tryd.prog W = .ok (rval a R) W := by
  have q0 := q.cell 0
  have q1 := q.cell 1
  have q2 := q.cell 2
  have q3 := q.cell 3
  have q4 := q.cell 4
  have q5 := q.cell 5
  simp at q0 q1 q2 q3 q4 q5
  simp [go_sem, q0, q1, q2, q3, q4, q5]
theorem results_ro {fn : Func} {p : Tmp} (h : fn.results = #[.cell p 30]) (tmps : Array Value) (g1 : Nat) (h1 : tmps[p]?.getD undef = .pointer (some ⟨g1, 0, none⟩)) (W : World) (a : RA) (R : Ro) (q : Blk W g1 30 (rarr a R)) :
    (results fn tmps).run Tryd.prog W = .ok (rval a R) W := by
  have := load_ro g1 a R W q
  simp [results, h, h1, asAddr, this]
theorem results_ro_err {fn : Func} {p u : Tmp} (h : fn.results = #[.cell p 30, .tmp u]) (tmps : Array Value) (g1 : Nat) (h1 : tmps.getD p undef = .pointer (some ⟨g1, 0, none⟩)) (e : Value) (h2 : tmps.getD u undef = e)
    (W : World) (a : RA) (R : Ro) (q : Blk W g1 30 (rarr a R)) : (results fn tmps).run Tryd.prog W = .ok (.tuple #[rval a R, e]) W := by
  rw [results_cell_tmp h, h1, h2]
  simp [asAddr, load_ro g1 a R W q]

/-- the state of copied's loop -/
structure Cpy (B : Nat) (w : World) (a : RA) (R : Ro) (A : Option Addr) (c : Nat) (os : List OC) (wr : World) : Prop where
  b0 : Blk wr w.heap.size 30 (rarr ⟨A, a.kn, c, a.CA, a.cn, a.cc⟩ R)
  b1 : Blk wr (w.heap.size + 1) 30 (rarr RA.zero Ro.zero)
  own : wr.ownsRow (w.heap.size + 2) 53 2 (.slice A a.kn c) a.kn (flat recO os)
  ln : os.length = a.kn
  el : ∀ (i : Nat) (o : OC) (q : Od), os[i]? = some o → R.ks[i]? = some q → ORF (fun b => (b < B ∨ w.heap.size + 2 ≤ b) ∧ (Value.slice A a.kn c).ownBlock ≠ some b) wr o q
  bel : Below w.heap.size w wr
theorem Cpy.step {B : Nat} {w wr w1 : World} {a : RA} {R : Ro} {A : Option Addr} {c : Nat} {os : List OC} (h : Cpy B w a R A c os wr) (hb : Below wr.heap.size wr w1) : Cpy B w a R A c os w1 :=
  ⟨h.b0.step hb, h.b1.step hb, own_step h.own hb, h.ln, fun i o q hi hq => (h.el i o q hi hq).keep hb.size fun b hF hlt => ⟨hF, hb.block b hlt⟩, h.bel.step' hb⟩
theorem Cpy.next {B : Nat} {w wr : World} {a : RA} {R : Ro} {g c : Nat} {os : List OC} (h : Cpy B w a R (some ⟨g, 0, none⟩) c os wr) {i : Nat} {o : OC} {q : Od} (hi : os[i]? = some o) (hq : R.ks[i]? = some q) {A : Option Addr} {n k : Nat}
    (hst : STF (fun b => w.heap.size + 2 ≤ b ∧ b ≠ g) wr A n k q.p) : Cpy B w a R (some ⟨g, 0, none⟩) c (os.set i ⟨A, n, k, o.d⟩) (wr.setCell ⟨g, i * 2, none⟩ (.slice A n k)) := by
  have hg : w.heap.size + 2 ≤ g := own_ge h.own g rfl
  have hown := own_set h.own (i * 2) (.slice A n k)
  rw [show i * 2 = i * 2 + 0 by rfl, flat_setj recO_length hi (by omega) (a' := ⟨A, n, k, o.d⟩) rfl] at hown
  refine ⟨h.b0.far (by show w.heap.size ≠ g; omega) _, h.b1.far (by show w.heap.size + 1 ≠ g; omega) _, hown, by rw [List.length_set]; exact h.ln, fun j o' q' hj hq' => ?_, h.bel.setCell (by show w.heap.size ≤ g; omega) _⟩
  rw [List.getElem?_set] at hj
  split at hj
  · rename_i e
    subst e
    split at hj
    · injection hj with hj
      subst hj
      rw [hq] at hq'
      injection hq' with hq'
      subst hq'
      exact ⟨(h.el i o q hi hq).d, hst.keep (by simp [World.setCell]) fun b hF _ => ⟨⟨.inr hF.1, by simp [Value.ownBlock]; exact fun e => hF.2 e.symm⟩, Below.heap_setCell _ _ _ b hF.2⟩⟩
    · cases hj
  · exact (h.el j o' q' hj hq').keep (by simp [World.setCell]) fun b hF _ => ⟨hF, Below.heap_setCell _ _ _ b fun e => hF.2 (by simp [Value.ownBlock]; exact e.symm)⟩

/-- what a copy of routes is: the chunks lie in a row of its own -/
def CopOk (B : Nat) (w : World) (R : Ro) (e : Ending) (w' : World) : Prop :=
  ∃ a : RA, e = .returned (rval a R) ∧ KSF (fun b => (b < B ∨ w.heap.size ≤ b) ∧ (Value.slice a.CA a.cn a.cc).ownBlock ≠ some b) w' a.KA a.kn a.kc R.ks ∧ w'.ownsRow w.heap.size 45 5 (.slice a.CA a.cn a.cc) a.cn (flat recC R.cs) ∧ a.cn = R.cs.length ∧ a.cn * 56 ≤ reach ∧ Below w.heap.size w w'

set_option maxRecDepth 100000 in
set_option maxHeartbeats 2000000 in
theorem copied_any (B : Nat) (R : Ro) (a : RA) (w : World) (hB : B ≤ w.heap.size) (hk : KSF (fun b => b < B) w a.KA a.kn a.kc R.ks) (hc : CS w a.CA a.cn a.cc R.cs) : Calls Tryd.prog 24 #[rval a R] w (CopOk B w R) := by
  obtain ⟨KA, kn, kc, CA, cn, cc⟩ := a
  have hln := Lib.hid hk.ks.ln
  have HCS := Lib.hid hc
  obtain ⟨os, hkz, hkl, hkb, hke⟩ := hk
  obtain ⟨hkz, hsr⟩ : kn * 32 ≤ reach ∧ SR 2 recO w KA kn kc os := ⟨hkl, hkz⟩
  have hkn : kn ≤ 140737488355328 := by unfold reach at hkz; omega
  have HSR := Lib.hid hsr
  have HKZ := Lib.hid hkz
  have HKL := Lib.hid hkb
  have HKE := Lib.hid hke.2
  clear hc hkl hkb hke hsr hkz
  have B0 : Hid (Blk ((w.alloc (Obj.cells (rarr ⟨KA, kn, kc, CA, cn, cc⟩ R) 30)).alloc (Obj.cells (rarr RA.zero Ro.zero) 30)) w.heap.size 30 (rarr ⟨KA, kn, kc, CA, cn, cc⟩ R)) := (Blk.new_at rfl).alloc _
  have B1 : Hid (Blk ((w.alloc (Obj.cells (rarr ⟨KA, kn, kc, CA, cn, cc⟩ R) 30)).alloc (Obj.cells (rarr RA.zero Ro.zero) 30)) (w.heap.size + 1) 30 (rarr RA.zero Ro.zero)) := Blk.new_at (by simp)
  have BE : Hid (Below w.heap.size w ((w.alloc (Obj.cells (rarr ⟨KA, kn, kc, CA, cn, cc⟩ R) 30)).alloc (Obj.cells (rarr RA.zero Ro.zero) 30))) := ((Below.refl _ _).alloc (Nat.le_refl _) _).alloc (by simp) _
  go_enter Tryd.func24, Tryd.ntmps24
  go_upto_region 1 with fail
  change (Code.region 1 _ _).wp _ _ _ ((w.alloc (Obj.cells (rarr ⟨KA, kn, kc, CA, cn, cc⟩ R) 30)).alloc (Obj.cells (rarr RA.zero Ro.zero) 30))
  have hsz : ((w.alloc (Obj.cells (rarr ⟨KA, kn, kc, CA, cn, cc⟩ R) 30)).alloc (Obj.cells (rarr RA.zero Ro.zero) 30)).heap.size = w.heap.size + 2 := by simp
  generalize (w.alloc (Obj.cells (rarr ⟨KA, kn, kc, CA, cn, cc⟩ R) 30)).alloc (Obj.cells (rarr RA.zero Ro.zero) 30) = wa at *
  have HSZ := Lib.hid hsz
  clear hsz
  have q1 := B0.out.cell 1
  simp at q1
  go_wp2_with fail
  refine (cloneO_any os _ _ _ _ (HSR.out.step BE.out) HKZ.out).mono ?_
  rintro e w1 ⟨v, rfl, hown, hb1⟩
  obtain ⟨A1, c1, rfl, hle1⟩ := own_slice hown
  have g0 := B0.out.step hb1
  have g1 := B1.out.step hb1
  have z1 := g0.frozen 1
  have y1 := g0.cell 1
  simp at y1
  rw [HSZ.out] at hown
  have I0 : Hid (Cpy B w ⟨KA, kn, kc, CA, cn, cc⟩ R A1 c1 os (w1.setCell ⟨w.heap.size, 1, none⟩ (.slice A1 kn c1))) := by
    have hne : (Value.slice A1 kn c1).ownBlock ≠ some w.heap.size := own_ne hown (by omega)
    refine ⟨g0.set_ 1 _, g1.far (by show w.heap.size + 1 ≠ w.heap.size; omega) _, own_far hown hne _, by have := HSR.out.ln; exact this.symm, fun i o q hi hq => ?_, (BE.out.step' hb1).setCell (Nat.le_refl _) _⟩
    exact (HKE.out i o q hi hq).keep (by have := (BE.out.step' hb1).size; simpa [World.setCell] using this) fun b hF _ => ⟨⟨.inl hF, own_ne hown (by omega)⟩, by rw [Below.heap_setCell _ _ _ b (by show b ≠ w.heap.size; omega)]; exact (BE.out.step' hb1).block b (by omega)⟩
  clear q1 g0 g1 hown hb1 B0 B1
  go_upto_region 2 with fail
  clear z1 y1
  generalize w1.setCell ⟨w.heap.size, 1, none⟩ (.slice A1 kn c1) = w2 at *
  have q1 := I0.out.b0.cell 1
  simp at q1
  go_wp2_with fail
  clear q1
  go_loopw [14, 3] (fun v14 v3 wr => ∃ (i : Nat) (os' : List OC), i ≤ kn ∧ v14 = .int .i64 i ∧ Cpy B w ⟨KA, kn, kc, CA, cn, cc⟩ R A1 c1 os' wr) (fun v14 _ _ => kn - (intOf v14).toNat)
  case atStart => exact ⟨0, os, Nat.zero_le _, rfl, I0.out⟩
  case round =>
    obtain ⟨i, os', hi, rfl, I⟩ := hrel
    have J := Lib.hid I
    have hbn : w.heap.size < wr.heap.size := I.b0.lt
    by_cases hlt : i < kn
    · obtain ⟨o, ho⟩ : ∃ o, os'[i]? = some o := ⟨_, List.getElem?_eq_getElem (by rw [I.ln]; exact hlt)⟩
      obtain ⟨q, hq⟩ : ∃ q, R.ks[i]? = some q := ⟨_, List.getElem?_eq_getElem (by have := hln.out; omega)⟩
      obtain ⟨g, cap, hv, hgb, hgl⟩ := I.own.form (by show 0 < kn; omega)
      have hv : A1 = some ⟨g, 0, none⟩ := by injection hv
      subst hv
      have r0 := (own_cell I.own (flat_get recO_length ho (j := 0) rfl)).1
      simp only [Nat.add_zero] at r0
      have q1 := I.b0.cell 1
      simp at q1
      have HOR := Lib.hid (I.el i o q ho hq)
      have HO := Lib.hid ho
      have HQ := Lib.hid hq
      have HGB := Lib.hid hgb
      obtain ⟨oA, on, oc, od⟩ := o
      simp only at r0
      have hi0 : (0 : Int) ≤ (i : Int) := by omega
      have hi1 : (i : Int) < (kn : Int) := by omega
      clear ho hq hgb I
      go_upto_region 5 with fail
      go_region_law ((go_simp; go_at_call 27; refine (cloneT_any q.p _ _ _ _ (HOR.out.st.st.step ((Below.refl _ _).drewN 1)).sr HOR.out.st.st.sz).mono ?_; rintro e w3 ⟨v, rfl, hown, hb3⟩; replace hb3 : Below wr.heap.size wr w3 := hb3.undrewN; replace hown : w3.ownsRow wr.heap.size 9 1 v on (flat recT q.p) := hown; obtain ⟨A2, c2, hv2, hsr2⟩ := SR.of_own recT_length hown (by have := HOR.out.st.st.sr.ln; exact this.symm); have hge := own_ge hown; rw [hv2] at hge ⊢; have s0 := (hb3.cell (p := ⟨w.heap.size, 1, none⟩) J.out.b0.lt).trans q1; have s1 := (hb3.cell (p := ⟨g, i * 2, none⟩) hgl).trans r0; have LX := Lib.hid (J.out.step hb3); have z : w3.frozen? ⟨g, i * 2, none⟩ = false := (own_cell LX.out.own (flat_get recO_length HO.out (j := 0) rfl)).2; have HG := Lib.hid hge; have HR2 := Lib.hid hsr2; clear hb3 hown hv2 hge hsr2))
      all_goals
        clear s0 s1 z q1 r0
        go_wp2_with fail
        go_roundw
        case rel => exact ⟨i + 1, _, by omega, by go_num, LX.out.next HO.out HQ.out ⟨⟨HR2.out, HOR.out.st.st.sz, HOR.out.st.st.el⟩, fun hn b off e => by have := HG.out b (by rw [e]; rfl); have := J.out.b1.lt; exact ⟨by omega, by omega⟩⟩⟩
        case measure => simp [intOf]; omega
    · have hik : i = kn := by omega
      have q5 := I.b0.cell 5
      simp at q5
      go_upto_region 7 with fail
      go_wp2_with fail
      refine (cloneC_any R.cs _ _ _ _ (HCS.out.sr.step I.bel) HCS.out.sz).mono ?_
      rintro e w3 ⟨v, rfl, hown, hb3⟩
      obtain ⟨A3, c3, rfl, hle3⟩ := own_slice hown
      have LX := Lib.hid (I.step hb3)
      have z5 := LX.out.b0.frozen 5
      have y5 := LX.out.b0.cell 5
      simp at y5
      have hgel := own_ge hown
      have hbs := I.b1.lt
      have D0 : Hid (Blk (w3.setCell ⟨w.heap.size, 5, none⟩ (.slice A3 cn c3)) w.heap.size 30 (rarr ⟨A1, kn, c1, A3, cn, c3⟩ R)) := LX.out.b0.set_ 5 _
      have D1 : Hid (Blk (w3.setCell ⟨w.heap.size, 5, none⟩ (.slice A3 cn c3)) (w.heap.size + 1) 30 (rarr RA.zero Ro.zero)) := LX.out.b1.far (by show w.heap.size + 1 ≠ w.heap.size; omega) _
      have DO := Lib.hid (own_far hown (p := ⟨w.heap.size, 5, none⟩) (fun e => by have := hgel _ e; simp only at this; omega) (.slice A3 cn c3))
      have DB : Hid (Below w.heap.size w (w3.setCell ⟨w.heap.size, 5, none⟩ (.slice A3 cn c3))) := LX.out.bel.setCell (Nat.le_refl _) _
      have DK : Hid (KSF (fun b => (b < B ∨ w.heap.size + 2 ≤ b) ∧ (Value.slice A3 cn c3).ownBlock ≠ some b) (w3.setCell ⟨w.heap.size, 5, none⟩ (.slice A3 cn c3)) A1 kn c1 R.ks) := by
        have hK : KSF (fun b => b < B ∨ w.heap.size + 2 ≤ b) wr A1 kn c1 R.ks := by
          obtain ⟨A', c', hv, hsr⟩ := SR.of_own recO_length I.own I.ln
          injection hv with h1 h2 h3
          subst h1 h3
          refine ⟨os', hsr, HKZ.out, by rw [I.ln]; exact hln.out, fun hn b off e => ?_, fun i o q hi hq => (I.el i o q hi hq).keep (Nat.le_refl _) fun b hF _ => ⟨hF.1, rfl⟩⟩
          have := own_ge I.own b (by rw [e]; rfl)
          omega
        exact hK.keep (by have := hb3.size; simpa using this) fun b hF hlt => ⟨⟨hF, fun e => by have := hgel _ e; omega⟩, by rw [Below.heap_setCell _ _ _ b (by show b ≠ w.heap.size; omega)]; exact hb3.block b hlt⟩
      clear q5 hown hb3 hle3 I J hgel
      go_upto_region 8 with fail
      clear z5 y5
      generalize w3.setCell ⟨w.heap.size, 5, none⟩ (.slice A3 cn c3) = w4 at *
      have q0 := D0.out.cell 0
      have q1 := D0.out.cell 1
      have q2 := D0.out.cell 2
      have q3 := D0.out.cell 3
      have q4 := D0.out.cell 4
      have q5 := D0.out.cell 5
      have r0 := D1.out.cell 0
      have r1 := D1.out.cell 1
      have r2 := D1.out.cell 2
      have r3 := D1.out.cell 3
      have r4 := D1.out.cell 4
      have r5 := D1.out.cell 5
      have z := D1.out.frozen
      simp at q0 q1 q2 q3 q4 q5 r0 r1 r2 r3 r4 r5
      have E0 := Lib.hid (D1.out.putR (a := ⟨A1, kn, c1, A3, cn, c3⟩) (R := R))
      have E1 : Hid (KSF (fun b => (b < B ∨ w.heap.size ≤ b) ∧ (Value.slice A3 cn c3).ownBlock ≠ some b) (setR w4 (w.heap.size + 1) ⟨A1, kn, c1, A3, cn, c3⟩ R) A1 kn c1 R.ks) :=
        DK.out.keep (by rw [size_setR]; exact Nat.le_refl _) fun b hF _ => ⟨⟨by omega, hF.2⟩, heap_setR _ _ _ _ b (by omega)⟩
      have E2 : Hid ((setR w4 (w.heap.size + 1) ⟨A1, kn, c1, A3, cn, c3⟩ R).ownsRow w.heap.size 45 5 (.slice A3 cn c3) cn (flat recC R.cs)) :=
        own_mono (own_keep DO.out fun g hg => heap_setR _ _ _ _ g (by have := own_ge DO.out g hg; omega)) (by omega)
      have E3 : Hid (Below w.heap.size w (setR w4 (w.heap.size + 1) ⟨A1, kn, c1, A3, cn, c3⟩ R)) := below_setR DB.out (by omega) _ _
      clear DK DO DB D0 D1
      go_wp2_with fail
      clear q0 q1 q2 q3 q4 q5 r0 r1 r2 r3 r4 r5 z
      refine bodyPost_ret (results_ro rfl _ (w.heap.size + 1) rfl _ ⟨A1, kn, c1, A3, cn, c3⟩ R E0.out) rfl ?_
      exact ⟨⟨A1, kn, c1, A3, cn, c3⟩, rfl, E1.out, E2.out, HCS.out.ln, HCS.out.sz, E3.out⟩

end Go.Proofs.YtgcklgkhdokchaaDoor

namespace Go.Proofs.YtgcklgkhdokchaaDoor
open Go.RowKit

/-- routes that were copied, with the next version -/
def Ro.nx (R : Ro) : Ro := ⟨R.sp, R.ks, R.ha, R.ep, Go.Proofs.YtgcklgkhdokchaaDoor.nx R.ver, R.cs⟩
set_option maxRecDepth 100000 in
set_option maxHeartbeats 400000 in
theorem changed_any (B : Nat) (R : Ro) (a : RA) (w : World) (hB : B ≤ w.heap.size) (hk : KSF (fun b => b < B) w a.KA a.kn a.kc R.ks) (hc : CS w a.CA a.cn a.cc R.cs) : Calls Tryd.prog 33 #[rval a R] w (CopOk B w R.nx) := by
  obtain ⟨KA, kn, kc, CA, cn, cc⟩ := a
  have HK := Lib.hid hk
  have HC := Lib.hid hc
  clear hk hc
  have B0 : Hid (Blk ((w.alloc (Obj.cells (rarr ⟨KA, kn, kc, CA, cn, cc⟩ R) 30)).alloc (Obj.cells (rarr RA.zero Ro.zero) 30)) w.heap.size 30 (rarr ⟨KA, kn, kc, CA, cn, cc⟩ R)) := (Blk.new_at rfl).alloc _
  have B1 : Hid (Blk ((w.alloc (Obj.cells (rarr ⟨KA, kn, kc, CA, cn, cc⟩ R) 30)).alloc (Obj.cells (rarr RA.zero Ro.zero) 30)) (w.heap.size + 1) 30 (rarr RA.zero Ro.zero)) := Blk.new_at (by simp)
  have BE : Hid (Below w.heap.size w ((w.alloc (Obj.cells (rarr ⟨KA, kn, kc, CA, cn, cc⟩ R) 30)).alloc (Obj.cells (rarr RA.zero Ro.zero) 30))) := ((Below.refl _ _).alloc (Nat.le_refl _) _).alloc (by simp) _
  go_enter Tryd.func33, Tryd.ntmps33
  go_upto_region 1 with fail
  change (Code.region 1 _ _).wp _ _ _ ((w.alloc (Obj.cells (rarr ⟨KA, kn, kc, CA, cn, cc⟩ R) 30)).alloc (Obj.cells (rarr RA.zero Ro.zero) 30))
  have hsz : ((w.alloc (Obj.cells (rarr ⟨KA, kn, kc, CA, cn, cc⟩ R) 30)).alloc (Obj.cells (rarr RA.zero Ro.zero) 30)).heap.size = w.heap.size + 2 := by simp
  generalize (w.alloc (Obj.cells (rarr ⟨KA, kn, kc, CA, cn, cc⟩ R) 30)).alloc (Obj.cells (rarr RA.zero Ro.zero) 30) = wa at *
  have HSZ := Lib.hid hsz
  clear hsz
  have q0 := B0.out.cell 0
  have q1 := B0.out.cell 1
  have q2 := B0.out.cell 2
  have q3 := B0.out.cell 3
  have q4 := B0.out.cell 4
  have q5 := B0.out.cell 5
  simp at q0 q1 q2 q3 q4 q5
  go_wp2_with fail
  clear q0 q1 q2 q3 q4 q5
  refine (copied_any B R ⟨KA, kn, kc, CA, cn, cc⟩ wa (by have := HSZ.out; omega) (HK.out.keep (by have := HSZ.out; omega) fun b hF hlt => ⟨hF, BE.out.block b hlt⟩) (HC.out.step BE.out)).mono ?_
  rintro e w1 ⟨⟨KA', kn', kc', CA', cn', cc'⟩, rfl, hks, hown, hln, hcz, hb1⟩
  rw [HSZ.out] at hks hown hb1
  have HLN := Lib.hid hln
  have HCZ := Lib.hid hcz
  clear hln hcz
  have g0 := B0.out.below hb1 (by omega)
  have g1 := B1.out.below hb1 (by omega)
  have z := g0.frozen
  obtain ⟨y0, y1, y2, y3, y4, y5⟩ : w1.cell? ⟨w.heap.size, 0, none⟩ = some (.string R.sp) ∧ w1.cell? ⟨w.heap.size, 1, none⟩ = some (.slice KA kn kc) ∧ w1.cell? ⟨w.heap.size, 2, none⟩ = some (.bool R.ha) ∧ w1.cell? ⟨w.heap.size, 3, none⟩ = some (.int .i64 R.ep) ∧ w1.cell? ⟨w.heap.size, 4, none⟩ = some (.int .i64 R.ver) ∧ w1.cell? ⟨w.heap.size, 5, none⟩ = some (.slice CA cn cc) := by
    refine ⟨?_, ?_, ?_, ?_, ?_, ?_⟩ <;> rw [g0.cell] <;> rfl
  have hgel := own_ge hown
  have D0 : Hid (Blk ((setR w1 w.heap.size ⟨KA', kn', kc', CA', cn', cc'⟩ R).setCell ⟨w.heap.size, 4, none⟩ (.int .i64 (nx R.ver))) w.heap.size 30 (rarr ⟨KA', kn', kc', CA', cn', cc'⟩ R.nx)) := (g0.putR (a := ⟨KA', kn', kc', CA', cn', cc'⟩) (R := R)).set_ 4 _
  have hpt : ∀ b, b ≠ w.heap.size → ((setR w1 w.heap.size ⟨KA', kn', kc', CA', cn', cc'⟩ R).setCell ⟨w.heap.size, 4, none⟩ (.int .i64 (nx R.ver))).heap[b]? = w1.heap[b]? := fun b h => by
    rw [Below.heap_setCell _ _ _ b h]; exact heap_setR _ _ _ _ b h
  have hps : ((setR w1 w.heap.size ⟨KA', kn', kc', CA', cn', cc'⟩ R).setCell ⟨w.heap.size, 4, none⟩ (.int .i64 (nx R.ver))).heap.size = w1.heap.size := by simp
  have D1 : Hid (Blk ((setR w1 w.heap.size ⟨KA', kn', kc', CA', cn', cc'⟩ R).setCell ⟨w.heap.size, 4, none⟩ (.int .i64 (nx R.ver))) (w.heap.size + 1) 30 (rarr RA.zero Ro.zero)) := (hpt _ (by omega)).trans g1
  have DO := Lib.hid (own_keep hown fun g hg => hpt g (by have := hgel g hg; omega))
  have DB : Hid (Below w.heap.size w ((setR w1 w.heap.size ⟨KA', kn', kc', CA', cn', cc'⟩ R).setCell ⟨w.heap.size, 4, none⟩ (.int .i64 (nx R.ver)))) := (below_setR (BE.out.trans (hb1.mono (by omega))) (Nat.le_refl _) _ _).setCell (Nat.le_refl _) _
  have DK := Lib.hid (hks.keep (G := fun b => (b < B ∨ w.heap.size + 2 ≤ b) ∧ (Value.slice CA' cn' cc').ownBlock ≠ some b) (by rw [hps]; exact Nat.le_refl _) fun b hF _ => ⟨hF, hpt b (by have := hF.1; omega)⟩)
  clear g0 g1 hks hown hb1 hpt hps hgel HK HC B0 B1 BE
  go_upto_region 2 with fail
  go_upto_region 3 with fail
  clear y0 y1 y2 y3 y4 y5 z
  change (Code.region 3 _ _).wp _ _ _ ((setR w1 w.heap.size ⟨KA', kn', kc', CA', cn', cc'⟩ R).setCell ⟨w.heap.size, 4, none⟩ (.int .i64 (nx R.ver)))
  generalize (setR w1 w.heap.size ⟨KA', kn', kc', CA', cn', cc'⟩ R).setCell ⟨w.heap.size, 4, none⟩ (.int .i64 (nx R.ver)) = w4 at *
  have q0 := D0.out.cell 0
  have q1 := D0.out.cell 1
  have q2 := D0.out.cell 2
  have q3 := D0.out.cell 3
  have q4 := D0.out.cell 4
  have q5 := D0.out.cell 5
  have r0 := D1.out.cell 0
  have r1 := D1.out.cell 1
  have r2 := D1.out.cell 2
  have r3 := D1.out.cell 3
  have r4 := D1.out.cell 4
  have r5 := D1.out.cell 5
  have z := D1.out.frozen
  simp at q0 q1 q2 q3 q4 q5 r0 r1 r2 r3 r4 r5
  have E0 := Lib.hid (D1.out.putR (a := ⟨KA', kn', kc', CA', cn', cc'⟩) (R := R.nx))
  have E1 : Hid (KSF (fun b => (b < B ∨ w.heap.size ≤ b) ∧ (Value.slice CA' cn' cc').ownBlock ≠ some b) (setR w4 (w.heap.size + 1) ⟨KA', kn', kc', CA', cn', cc'⟩ R.nx) KA' kn' kc' R.ks) :=
    DK.out.keep (by rw [size_setR]; exact Nat.le_refl _) fun b hF _ => ⟨⟨by omega, hF.2⟩, heap_setR _ _ _ _ b (by omega)⟩
  have E2 : Hid ((setR w4 (w.heap.size + 1) ⟨KA', kn', kc', CA', cn', cc'⟩ R.nx).ownsRow w.heap.size 45 5 (.slice CA' cn' cc') cn' (flat recC R.cs)) :=
    own_mono (own_keep DO.out fun g hg => heap_setR _ _ _ _ g (by have := own_ge DO.out g hg; omega)) (by omega)
  have E3 : Hid (Below w.heap.size w (setR w4 (w.heap.size + 1) ⟨KA', kn', kc', CA', cn', cc'⟩ R.nx)) := below_setR DB.out (by omega) _ _
  clear DK DO DB D0 D1
  go_wp2_with fail
  clear q0 q1 q2 q3 q4 q5 r0 r1 r2 r3 r4 r5 z
  refine bodyPost_ret (results_ro rfl _ (w.heap.size + 1) rfl _ ⟨KA', kn', kc', CA', cn', cc'⟩ R.nx E0.out) rfl ?_
  exact ⟨⟨KA', kn', kc', CA', cn', cc'⟩, rfl, E1.out, E2.out, HLN.out, HCZ.out, E3.out⟩

end Go.Proofs.YtgcklgkhdokchaaDoor

namespace Go.Proofs.YtgcklgkhdokchaaDoor
open Go.RowKit

/-- a row of the call's own, with its spare cells -/
theorem own_blk {w : World} {base : Nat} {e : TypeId} {s n c g : Nat} {xs : List Value} (h : w.ownsRow base e s (.slice (some ⟨g, 0, none⟩) n c) n xs) :
    ∃ R : List Value, Blk w g e (xs ++ R).toArray ∧ (xs ++ R).length = c * s ∧ n ≤ c ∧ c ≤ maxLen ∧ base ≤ g := by
  rcases h.2 with ⟨h1, _⟩ | ⟨g', cap, cur, hv, hg, hh, hnc, hm, hsz, htk⟩
  · cases h1
  · injection hv with h1 h2 h3
    injection h1 with h1
    injection h1 with h1
    subst h1 h3
    refine ⟨cur.toList.drop (n * s), ?_, ?_, hnc, hm, hg⟩
    · rw [← htk, List.take_append_drop]
      exact hh
    · rw [← htk, List.take_append_drop]
      simpa using hsz
theorem blk_own {w : World} {base : Nat} {e : TypeId} {s n c g : Nat} {xs R : List Value} (h : Blk w g e (xs ++ R).toArray) (hx : xs.length = n * s) (hl : (xs ++ R).length = c * s) (hnc : n ≤ c) (hm : c ≤ maxLen) (hg : base ≤ g) :
    w.ownsRow base e s (.slice (some ⟨g, 0, none⟩) n c) n xs :=
  ⟨hx, .inr ⟨g, c, (xs ++ R).toArray, rfl, hg, h, hnc, hm, by simpa using hl, by rw [List.toList_toArray, ← hx, List.take_left]⟩⟩

theorem run_copy_rec {P : Program} (w : World) (dT sT ty elem : TypeId) (b o dLen dCap : Nat) (a : Addr) (sLen sCap s : Nat) (cs : List Value)
    (hu : P.underlying dT = some (.slice elem)) (hs : (P.info? elem).map (·.size) = some s) (hn : cs.length = Nat.min sLen dLen * s)
    (hsrc : ∀ j v, cs[j]? = some v → w.cell? (a.add j) = some v) (hc : ∀ j, j < cs.length → (w.cell? ⟨b, o + j, none⟩).isSome = true) (hf : ∀ j, j < cs.length → w.frozen? ⟨b, o + j, none⟩ = false) (h1 : ∀ v ∈ cs, v.oneCell' = true) :
    (Builtin.copy_ #[dT, sT] ty #[.slice (some ⟨b, o, none⟩) dLen dCap, .slice (some a) sLen sCap]).run P w = .ok (goInt (Nat.min sLen dLen)) (w.setCells b o cs) := by
  have hl := run_loadCells_list (P := P) w a cs hsrc
  have hst := run_storeCells_cells (P := P) b o cs 0 w (by simpa using hc) (by simpa using hf) h1
  cases hq : P.info? elem with
  | none => simp [hq] at hs
  | some i =>
    have hi : i.size = s := by simpa [hq] using hs
    simp [Builtin.copy_, run_underlying hu, Builtin.lenOf, Builtin.firstCells, sizeOf, typeInfo, hq, hi, ← hn, hl, hst]

set_option maxRecDepth 100000 in
theorem overlaps_run (w : World) (g vb off la lb cb ca : Nat) (k : Nat) (hne : vb ≠ g) (tA tB : TypeId) (kA kB : Nat) (hsa : w.shape? vb = some (tA, kA)) (hsb : w.shape? g = some (tB, kB)) (hkB : kB ≠ 0)
    (hfa : w.frozen? ⟨vb, off, none⟩ = false) (hfe : w.frozen? ⟨vb, kA, none⟩ = false) :
    (callFunc 53 #[.slice (some ⟨vb, off, none⟩) la ca, .slice (some ⟨g, k, none⟩) lb cb]).run Tryd.prog w = .ok (.value (.bool false)) w := by
  rw [run_callFunc_extern Tryd.func53 (by kernel_rfl) (by kernel_rfl) (by kernel_rfl) (e := Extern.SlicesOverlaps.overlaps #[28, 28] #[4]) (by kernel_rfl),
      Lib.run_overlaps_apart w 28 4 45 Tryd.underlying28 5 (fun _ => rfl) ⟨vb, off, none⟩ ⟨g, k, none⟩ la ca lb cb hne tA tB kA kB hsa hsb hkB hfa hfe]
  rfl
theorem Blk.shape {w : World} {g : Nat} {t : TypeId} {cs : Array Value} (h : Blk w g t cs) : w.shape? g = some (t, cs.size) := by
  unfold Blk at h
  unfold World.shape?
  rw [h]

/-- what Insert hands back -/
def InsOk (lo g n : Nat) (cs : List Ch) (w : World) (e : Ending) (w' : World) : Prop :=
  ∃ A c, e = .returned (.slice A (n + 1) c) ∧ w'.ownsRow lo 45 5 (.slice A (n + 1) c) (n + 1) (flat recC cs) ∧ w.grownBy w' (some g)

set_option maxRecDepth 100000 in
set_option maxHeartbeats 1000000 in
theorem insert_end (cs : List Ch) (x : Ch) (lo g n c vb : Nat) (w : World) (h : w.ownsRow lo 45 5 (.slice (some ⟨g, 0, none⟩) n c) n (flat recC cs)) (hx : Blk w vb 45 (recC x).toArray) (hz : (n + 1) * 56 ≤ reach) (hlo : lo ≤ w.heap.size) :
    Calls Tryd.prog 34 #[.slice (some ⟨g, 0, none⟩) n c, .int .i64 n, .slice (some ⟨vb, 0, none⟩) 1 1] w (InsOk lo g n (cs ++ [x]) w) := by
  obtain ⟨j0, hj0, hy0, hy1, hy2⟩ := info_parts info_chunk
  have HO := Lib.hid h
  have HR : Hid (Reads w w.heap.size 5 (some ⟨vb, 0, none⟩) 1 (recC x)) := ⟨rfl, fun _ => ⟨_, rfl, hx.lt, fun j u hu => by rw [addr_add, Nat.zero_add, hx.cell]; simpa using hu⟩⟩
  have H1 := Lib.hid (recC_one x)
  obtain ⟨R, _, _, hnc, hcm, _⟩ := own_blk h
  unfold maxLen at hcm
  unfold reach at hz
  clear h hx
  go_enter Tryd.func34, Tryd.ntmps34
  go_wp2_with (at_builtin; refine wpList_append_any _ rfl _ _ 28 rfl lo 45 j0 (aggC Ch.zero) 5 56 Tryd.underlying28 hj0 hy0 hy1 hy2 rfl (by decide) (.slice (some ⟨g, 0, none⟩) n c) n (flat recC cs) rfl HO.out w.heap.size (some ⟨vb, 0, none⟩) 1 1 (recC x) rfl HR.out H1.out (by unfold maxLen; omega) (by omega) hlo ?_)
  all_goals
    intro v' w2 hown hg _
    obtain ⟨A, c', rfl, _⟩ := own_slice hown
    go_wp2_with fail
    go_ret
    refine ⟨A, c', rfl, ?_, hg⟩
    rw [flat_snoc]
    exact hown

set_option maxRecDepth 100000 in
set_option maxHeartbeats 1000000 in
theorem insert_shift (cs : List Ch) (x : Ch) (lo g n c i vb : Nat) (w : World) (h : w.ownsRow lo 45 5 (.slice (some ⟨g, 0, none⟩) n c) n (flat recC cs)) (hx : Blk w vb 45 (recC x).toArray) (hne : vb ≠ g) (hi : i < n) (hroom : n + 1 ≤ c) :
    Calls Tryd.prog 34 #[.slice (some ⟨g, 0, none⟩) n c, .int .i64 i, .slice (some ⟨vb, 0, none⟩) 1 1] w (InsOk lo g n (cs.take i ++ [x] ++ cs.drop i) w) := by
  obtain ⟨j0, hj0, hy0, hy1, hy2⟩ := info_parts info_chunk
  have hi5 : (Tryd.prog.info? 45).map (·.size) = some 5 := by rw [hj0]; simp [hy1]
  obtain ⟨R, hB, hlen, hnc, hcm, hge⟩ := own_blk h
  have hsa := hx.shape
  have hsb := hB.shape
  rw [List.size_toArray, hlen] at hsb
  have hov : ∀ lb cb, (callFunc 53 #[.slice (some ⟨vb, 0, none⟩) 1 1, .slice (some ⟨g, (i + 1) * 5, none⟩) lb cb]).run Tryd.prog w = .ok (.value (.bool false)) w := fun lb cb =>
    overlaps_run w g vb 0 1 lb cb 1 ((i + 1) * 5) hne _ _ _ _ hsa hsb (by omega) (hx.frozen _) (hx.frozen _)
  unfold maxLen at hcm
  have hin : ((i : Int) == (n : Int)) = false := by simp; omega
  have hi0 : (0 : Int) ≤ (i : Int) + 1 := by omega
  have hi1 : (i : Int) ≤ (n : Int) + 1 := by omega
  have hi2 : (i : Int) ≤ (n : Int) := by omega
  have hit : ((i : Int) + 1).toNat = i + 1 := by omega
  have hnt : ((n : Int) + 1).toNat = n + 1 := by omega
  have hfl := flat_length recC_length cs
  have hcn : cs.length = n := by have := h.1; omega
  have hdl : (flat recC (cs.drop i)).length = (n - i) * 5 := by rw [flat_length recC_length, List.length_drop, hcn]
  have hmin : Nat.min (n + 1 - i) (n - i) = n - i := Nat.min_eq_right (by omega)
  have hcell : ∀ k, k < c * 5 → (w.cell? ⟨g, k, none⟩).isSome = true := by
    intro k hk
    rw [hB.cell, Array.getElem?_eq_getElem (by rw [List.size_toArray, hlen]; exact hk)]
    rfl
  obtain ⟨W1, hW1⟩ : ∃ W1, W1 = w.drew.setCells g ((i + 1) * 5) (flat recC (cs.drop i)) := ⟨_, rfl⟩
  have hB1 : Blk W1 g 45 (setList (flat recC cs ++ R) ((i + 1) * 5) (flat recC (cs.drop i))).toArray := by
    rw [hW1]
    exact Blk.setCells _ _ (w := w.drew) hB.drew
  have hl1 : (setList (flat recC cs ++ R) ((i + 1) * 5) (flat recC (cs.drop i))).length = c * 5 := by
    rw [setList_eq _ _ _ (by rw [hdl, hlen]; omega)]
    simp only [List.length_append, List.length_take, List.length_drop] at hlen ⊢
    rw [hdl]
    omega
  have hcp1 : ∀ ty dc sc, (Builtin.copy_ #[28, 28] ty #[.slice (some ⟨g, (i + 1) * 5, none⟩) (n - i) dc, .slice (some ⟨g, i * 5, none⟩) (n + 1 - i) sc]).run Tryd.prog w.drew = .ok (goInt ((n - i : Nat) : Int)) W1 := fun ty dc sc => by
    rw [hW1, ← hmin]
    refine run_copy_rec w.drew _ _ ty 45 g ((i + 1) * 5) (Nat.min (n + 1 - i) (n - i)) dc ⟨g, i * 5, none⟩ (n + 1 - i) sc 5 (flat recC (cs.drop i)) Tryd.underlying28 hi5 ?_ ?_ ?_ ?_ (flat_one recC_one _) |>.trans ?_
    · rw [hmin, hmin]; exact hdl
    · intro j v hj
      rw [addr_add]
      show w.cell? _ = _
      rw [hB.cell, List.getElem?_toArray]
      rw [← flat_drop recC_length, List.getElem?_drop] at hj
      rw [List.getElem?_append_left (List.getElem?_eq_some_iff.1 hj).1]
      exact hj
    · intro j hj
      exact hcell _ (by omega)
    · intro j hj
      exact hB.frozen _
    · rw [hmin, hmin]
  have hcp2 : ∀ ty dc, (Builtin.copy_ #[28, 28] ty #[.slice (some ⟨g, i * 5, none⟩) (n + 1 - i) dc, .slice (some ⟨vb, 0, none⟩) 1 1]).run Tryd.prog W1 = .ok (goInt 1) (W1.setCells g (i * 5) (recC x)) := fun ty dc => by
    have hm1 : Nat.min 1 (n + 1 - i) = 1 := Nat.min_eq_left (by omega)
    refine run_copy_rec W1 _ _ ty 45 g (i * 5) (n + 1 - i) dc ⟨vb, 0, none⟩ 1 1 5 (recC x) Tryd.underlying28 hi5 ?_ ?_ ?_ ?_ (recC_one x) |>.trans ?_
    · rw [hm1]; rfl
    · intro j v hj
      rw [addr_add, Nat.zero_add]
      have : Blk W1 vb 45 (recC x).toArray := by
        rw [hW1]
        exact (heap_setCells g _ _ w.drew vb hne).trans hx
      rw [this.cell]
      simpa using hj
    · intro j hj
      have h5 : j < 5 := hj
      rw [hB1.cell, Array.getElem?_eq_getElem (by rw [List.size_toArray, hl1]; omega)]
      rfl
    · intro j hj
      exact hB1.frozen _
    · rw [hm1]; rfl
  have HE : Hid (InsOk lo g n (cs.take i ++ [x] ++ cs.drop i) w (.returned (.slice (some ⟨g, 0, none⟩) (n + 1) c)) (W1.setCells g (i * 5) (recC x))) := by
    have hB2 := Blk.setCells (recC x) (i * 5) hB1
    have e5 : (recC x).length = 5 := rfl
    have htl : (flat recC (cs.take i)).length = i * 5 := by rw [flat_length recC_length, List.length_take, hcn, Nat.min_eq_left (by omega)]
    have hLt : (flat recC cs ++ R).take (i * 5) = flat recC (cs.take i) := by
      rw [List.take_append_of_le_length (by omega), flat_take recC_length]
    have e1 : setList (setList (flat recC cs ++ R) ((i + 1) * 5) (flat recC (cs.drop i))) (i * 5) (recC x) = flat recC (cs.take i ++ [x] ++ cs.drop i) ++ (flat recC cs ++ R).drop ((n + 1) * 5) := by
      rw [setList_eq _ _ _ (by rw [hl1, e5]; omega), e5, setList_eq _ _ _ (by rw [hdl, hlen]; omega), hdl, show (i + 1) * 5 + (n - i) * 5 = (n + 1) * 5 by omega]
      rw [List.append_assoc ((flat recC cs ++ R).take ((i + 1) * 5)), List.take_append_of_le_length (by rw [List.length_take, hlen]; omega), List.take_take, Nat.min_eq_left (by omega), hLt]
      rw [show i * 5 + 5 = ((flat recC cs ++ R).take ((i + 1) * 5)).length by rw [List.length_take, hlen, Nat.min_eq_left (by omega)]; omega, List.drop_left]
      rw [flat_append, flat_append]
      simp [flat]
    rw [e1] at hB2
    have hl2 : (flat recC (cs.take i ++ [x] ++ cs.drop i)).length = (n + 1) * 5 := by
      rw [flat_length recC_length]
      simp
      omega
    refine ⟨_, c, rfl, blk_own hB2 hl2 ?_ hroom (by unfold maxLen; omega) hge, ?_⟩
    · rw [List.length_append, hl2, List.length_drop, hlen]; omega
    · have hbut : But g w (W1.setCells g (i * 5) (recC x)) := by
        refine But.setCells _ _ ?_
        rw [hW1]
        exact But.setCells _ _ (But.of_below ((Below.refl w.heap.size w).drew))
      exact ⟨hbut.os, hbut.tape, hbut.output, hbut.size, fun k hk hkg => hbut.block k hk fun e => hkg (by rw [e])⟩
  have e6 : n - i = n + 1 - (i + 1) := by omega
  have hci : (c = i) = False := by simp; omega
  have hci1 : (c = i + 1) = False := by simp; omega
  have hw1 : IntKind.i64.wrap ((i : Int) + 1) = (i : Int) + 1 := by rw [IntKind.wrap_i64]; omega
  have hin2 : i ≤ n := by omega
  have hin3 : (i : Int) + 1 ≤ (n : Int) + 1 := by omega
  have hin4 : i + 1 ≤ n + 1 := by omega
  clear hi5 hj0 hy0 hy1 hy2 hsa hsb hfl hcn hdl hmin hcell hB1 hl1 hW1 hB hlen h hx e6
  go_enter Tryd.func34, Tryd.ntmps34
  go_wp2_with (simp only [hov])
  go_region_law (refine step_copy_runI rfl _ _ 28 28 rfl _ _ (by simp [Act.eval, Act.put]) (by simp [Act.eval, Act.put]) (hcp1 _ _ _) ?_)
  go_wp2_with (at_builtin; refine wpList_copy_runI _ rfl _ _ 28 28 rfl _ _ rfl rfl (hcp2 _ _) ?_)
  go_ret
  exact HE.out

set_option maxRecDepth 100000 in
set_option maxHeartbeats 1000000 in
theorem insert_grow (cs : List Ch) (x : Ch) (lo g n c i vb : Nat) (w : World) (h : w.ownsRow lo 45 5 (.slice (some ⟨g, 0, none⟩) n c) n (flat recC cs)) (hx : Blk w vb 45 (recC x).toArray) (hi : i < n) (hroom : c < n + 1) (hz : (n + 1) * 56 ≤ reach) (hlo : lo ≤ w.heap.size) :
    Calls Tryd.prog 34 #[.slice (some ⟨g, 0, none⟩) n c, .int .i64 i, .slice (some ⟨vb, 0, none⟩) 1 1] w (InsOk lo g n (cs.take i ++ [x] ++ cs.drop i) w) := by
  obtain ⟨j0, hj0, hy0, hy1, hy2⟩ := info_parts info_chunk
  have hi5 : (Tryd.prog.info? 45).map (·.size) = some 5 := by rw [hj0]; simp [hy1]
  obtain ⟨R, hB, hlen, hnc, hcm, hge⟩ := own_blk h
  have hcn : cs.length = n := by have := h.1; have := flat_length recC_length cs; omega
  obtain rfl : c = n := by omega
  unfold maxLen at hcm
  unfold reach at hz
  have hfl := flat_length recC_length cs
  have hgl := hB.lt
  have hvl := hx.lt
  have hsrc : ∀ j v, (flat recC cs)[j]? = some v → w.cell? ⟨g, j, none⟩ = some v := fun j v hj => by
    rw [hB.cell, List.getElem?_toArray, List.getElem?_append_left (List.getElem?_eq_some_iff.1 hj).1]
    exact hj
  have htl : (flat recC (cs.take i)).length = i * 5 := by rw [flat_length recC_length, List.length_take, hcn, Nat.min_eq_left (by omega)]
  have hdl : (flat recC (cs.drop i)).length = (c - i) * 5 := by rw [flat_length recC_length, List.length_drop, hcn]
  have hold : (Builtin.firstCells j0.size i (.slice (some ⟨g, 0, none⟩) i c)).run Tryd.prog w.drew = .ok (flat recC (cs.take i)).toArray w.drew := by
    rw [hy1]
    exact run_firstCells_some w.drew 5 i ⟨g, 0, none⟩ i c (flat recC (cs.take i)) htl (fun j v hj => by
      rw [addr_add, Nat.zero_add]
      rw [← flat_take recC_length, List.getElem?_take] at hj
      split at hj
      · exact hsrc j v hj
      · cases hj)
  have hik : i + (c + 1 - i) = c + 1 := by omega
  have hkk : (c : Int) + 1 - (i : Int) = ((c + 1 - i : Nat) : Int) := by omega
  have hrz : ∀ ty, (Builtin.append_ #[28, 3] ty #[.slice (some ⟨g, 0, none⟩) i c, .int .i64 ((c : Int) + 1 - (i : Int))]).run Tryd.prog w =
      .ok (.slice (some ⟨w.heap.size, 0, none⟩) (c + 1) (grownCap w (c + 1) c 45)) (w.drew.alloc (.cells ((flat recC (cs.take i)).toArray ++ Builtin.zeroCells (aggC Ch.zero).cells (c + 1 - i) ++ Builtin.zeroCells (aggC Ch.zero).cells (grownCap w (c + 1) c 45 - (c + 1))) 45)) := fun ty => by
    have h := Lib.run_append_grow_zeros w 28 3 ty 45 j0 _ .i64 .i64 Tryd.underlying28 Tryd.underlying3 hj0 hy0 (some ⟨g, 0, none⟩) i c (flat recC (cs.take i)) hold (c + 1 - i) (by omega) (by omega) (by omega) (by omega) (by rw [hy2]; omega) (by rw [hy2, hik]; exact growslice_fits hroom (by omega))
    rw [hik] at h
    rw [hkk]
    exact h
  obtain ⟨G, hG⟩ : ∃ G, G = grownCap w (c + 1) c 45 := ⟨_, rfl⟩
  have hGn : c + 1 ≤ G := by rw [hG]; exact grownCap_ge w _ _ _
  have hG63 : G ≤ 9223372036854775807 := by
    have := grownCap_le_maxLen w (c + 1) c 45 (by unfold maxLen; omega)
    rw [← hG] at this
    unfold maxLen at this
    omega
  obtain ⟨Z, hZ, hZl⟩ : ∃ Z : List Value, (flat recC (cs.take i)).toArray ++ Builtin.zeroCells (aggC Ch.zero).cells (c + 1 - i) ++ Builtin.zeroCells (aggC Ch.zero).cells (G - (c + 1)) = (flat recC (cs.take i) ++ Z).toArray ∧ Z.length = (G - i) * 5 := by
    refine ⟨(Builtin.zeroCells (aggC Ch.zero).cells (c + 1 - i)).toList ++ (Builtin.zeroCells (aggC Ch.zero).cells (G - (c + 1))).toList, ?_, ?_⟩
    · apply Array.ext'
      simp
    · have e5 : (aggC Ch.zero).cells.size = 5 := rfl
      simp [Builtin.zeroCells, e5]
      omega
  rw [← hG] at hrz
  rw [hZ] at hrz
  obtain ⟨W1, hW1⟩ : ∃ W1, W1 = w.drew.alloc (.cells (flat recC (cs.take i) ++ Z).toArray 45) := ⟨_, rfl⟩
  rw [← hW1] at hrz
  have hB1 : Blk W1 w.heap.size 45 (flat recC (cs.take i) ++ Z).toArray := by rw [hW1]; exact Blk.new_at rfl
  have hbe : Below w.heap.size w W1 := by rw [hW1]; exact ((Below.refl w.heap.size w).drew).alloc (Nat.le_refl _) _
  have hl1 : (flat recC (cs.take i) ++ Z).length = G * 5 := by rw [List.length_append, htl, hZl]; omega
  have hm1 : Nat.min 1 (c + 1 - i) = 1 := Nat.min_eq_left (by omega)
  have hcpA : ∀ (W : World), (∀ a, W.cell? a = W1.cell? a) → (∀ a, W.frozen? a = W1.frozen? a) → ∀ ty dc, (Builtin.copy_ #[28, 28] ty #[.slice (some ⟨w.heap.size, i * 5, none⟩) (c + 1 - i) dc, .slice (some ⟨vb, 0, none⟩) 1 1]).run Tryd.prog W = .ok (goInt 1) (W.setCells w.heap.size (i * 5) (recC x)) := fun W hWc hWf ty dc => by
    refine run_copy_rec W _ _ ty 45 w.heap.size (i * 5) (c + 1 - i) dc ⟨vb, 0, none⟩ 1 1 5 (recC x) Tryd.underlying28 hi5 ?_ ?_ ?_ ?_ (recC_one x) |>.trans ?_
    · rw [hm1]; rfl
    · intro j v hj
      rw [addr_add, Nat.zero_add, hWc, (hx.step hbe).cell]
      simpa using hj
    · intro j hj
      have h5 : j < 5 := hj
      rw [hWc, hB1.cell, Array.getElem?_eq_getElem (by rw [List.size_toArray, hl1]; omega)]
      rfl
    · intro j hj
      rw [hWf]
      exact hB1.frozen _
    · rw [hm1]; rfl
  obtain ⟨W2, hW2⟩ : ∃ W2, W2 = W1.setCells w.heap.size (i * 5) (recC x) := ⟨_, rfl⟩
  have hB2 : Blk W2 w.heap.size 45 (setList (flat recC (cs.take i) ++ Z) (i * 5) (recC x)).toArray := by rw [hW2]; exact Blk.setCells _ _ hB1
  have e5 : (recC x).length = 5 := rfl
  have hl2 : (setList (flat recC (cs.take i) ++ Z) (i * 5) (recC x)).length = G * 5 := by
    rw [setList_eq _ _ _ (by rw [hl1, e5]; omega)]
    simp only [List.length_append, List.length_take, List.length_drop, e5] at hl1 ⊢
    omega
  have hg2 : ∀ b, b < w.heap.size → W2.heap[b]? = w.heap[b]? := fun b hb => by rw [hW2, heap_setCells _ _ _ _ _ (by omega)]; exact hbe.block b hb
  have hm2 : Nat.min (c - i) (c - i) = c - i := Nat.min_self _
  have hcpB : ∀ (W : World), (∀ a, W.cell? a = W2.cell? a) → (∀ a, W.frozen? a = W2.frozen? a) → ∀ ty dc sc, (Builtin.copy_ #[28, 28] ty #[.slice (some ⟨w.heap.size, (i + 1) * 5, none⟩) (c - i) dc, .slice (some ⟨g, i * 5, none⟩) (c - i) sc]).run Tryd.prog W = .ok (goInt ((c - i : Nat) : Int)) (W.setCells w.heap.size ((i + 1) * 5) (flat recC (cs.drop i))) := fun W hWc hWf ty dc sc => by
    refine run_copy_rec W _ _ ty 45 w.heap.size ((i + 1) * 5) (c - i) dc ⟨g, i * 5, none⟩ (c - i) sc 5 (flat recC (cs.drop i)) Tryd.underlying28 hi5 ?_ ?_ ?_ ?_ (flat_one recC_one _) |>.trans ?_
    · rw [hm2]; exact hdl
    · intro j v hj
      rw [addr_add, hWc, World.cell?_of_block (w := w) (hg2 g hgl)]
      rw [← flat_drop recC_length, List.getElem?_drop] at hj
      exact hsrc _ v hj
    · intro j hj
      rw [hWc, hB2.cell, Array.getElem?_eq_getElem (by rw [List.size_toArray, hl2]; omega)]
      rfl
    · intro j hj
      rw [hWf]
      exact hB2.frozen _
    · rw [hm2]
  have HE : ∀ W3 : World, Blk W3 w.heap.size 45 (setList (setList (flat recC (cs.take i) ++ Z) (i * 5) (recC x)) ((i + 1) * 5) (flat recC (cs.drop i))).toArray → Below w.heap.size w W3 → InsOk lo g c (cs.take i ++ [x] ++ cs.drop i) w (.returned (.slice (some ⟨w.heap.size, 0, none⟩) (c + 1) G)) W3 := by
    intro W3 hB3 hb3
    have e1 : setList (setList (flat recC (cs.take i) ++ Z) (i * 5) (recC x)) ((i + 1) * 5) (flat recC (cs.drop i)) = flat recC (cs.take i ++ [x] ++ cs.drop i) ++ (setList (flat recC (cs.take i) ++ Z) (i * 5) (recC x)).drop ((c + 1) * 5) := by
      rw [setList_eq _ _ _ (by rw [hdl, hl2]; omega), hdl, show (i + 1) * 5 + (c - i) * 5 = (c + 1) * 5 by omega]
      have : (setList (flat recC (cs.take i) ++ Z) (i * 5) (recC x)).take ((i + 1) * 5) = flat recC (cs.take i) ++ recC x := by
        rw [setList_eq _ _ _ (by rw [hl1, e5]; omega), e5, ← htl, List.take_left, show (i + 1) * 5 = (flat recC (cs.take i) ++ recC x).length by rw [List.length_append, htl, e5]; omega, List.take_left]
      rw [this, flat_append, flat_append]
      simp [flat]
    rw [e1] at hB3
    have hl3 : (flat recC (cs.take i ++ [x] ++ cs.drop i)).length = (c + 1) * 5 := by
      rw [flat_length recC_length]
      simp
      omega
    refine ⟨_, G, rfl, blk_own hB3 hl3 ?_ hGn (by unfold maxLen; omega) hlo, ?_⟩
    · rw [List.length_append, hl3, List.length_drop, hl2]; omega
    · exact ⟨hb3.os, hb3.tape, hb3.output, hb3.size, fun k hk _ => hb3.block k hk⟩
  have HB2 := Lib.hid hB2
  have HBE := Lib.hid hbe
  have hin : ((i : Int) == (c : Int)) = false := by simp; omega
  have hi0 : (0 : Int) ≤ (i : Int) + 1 := by omega
  have hi1 : (i : Int) ≤ (c : Int) + 1 := by omega
  have hi2 : (i : Int) ≤ (c : Int) := by omega
  have hit : ((i : Int) + 1).toNat = i + 1 := by omega
  have hw1 : IntKind.i64.wrap ((i : Int) + 1) = (i : Int) + 1 := by rw [IntKind.wrap_i64]; omega
  have hin2 : i ≤ c := by omega
  have hin3 : (i : Int) + 1 ≤ (c : Int) + 1 := by omega
  have hin4 : i + 1 ≤ c + 1 := by omega
  have hGi : (G = i) = False := by simp; omega
  have hGim : (G = i + 1) = False := by simp; omega
  have hci : (c = i) = False := by simp; omega
  clear hi5 hj0 hy0 hy1 hy2 hB hlen hfl hsrc htl hdl hold hik hkk hG hZ hZl hB1 hl1 hm1 hB2 e5 hl2 hg2 hm2 h hx hbe hroom hnc
  subst hW1
  have hE1 : ∀ a, ((w.alloc (.cells (flat recC (cs.take i) ++ Z).toArray 45)).drew).cell? a = (w.drew.alloc (.cells (flat recC (cs.take i) ++ Z).toArray 45)).cell? a := fun a => rfl
  have hE2 : ∀ a, ((w.alloc (.cells (flat recC (cs.take i) ++ Z).toArray 45)).drew).frozen? a = (w.drew.alloc (.cells (flat recC (cs.take i) ++ Z).toArray 45)).frozen? a := fun a => rfl
  go_enter Tryd.func34, Tryd.ntmps34
  go_wp2_with (first
    | (at_builtin; refine Lib.wpList_append_run _ rfl _ _ _ _ rfl _ _ rfl rfl _ _ (hrz _) ?_)
    | (at_builtin; refine wpList_copy_runI _ rfl _ _ 28 28 rfl _ _ rfl rfl (hcpA _ hE1 hE2 _ _) ?_))
  have k1 : Hid (Blk ((w.alloc (Obj.cells (flat recC (cs.take i) ++ Z).toArray 45)).drew.setCells w.heap.size (i * 5) (recC x)) w.heap.size 45 (setList (flat recC (cs.take i) ++ Z) (i * 5) (recC x)).toArray) := by
    have := HB2.out
    rw [hW2] at this
    exact this
  have k2 : ∀ a, ((w.alloc (Obj.cells (flat recC (cs.take i) ++ Z).toArray 45)).drew.setCells w.heap.size (i * 5) (recC x)).cell? a = W2.cell? a := fun a => by rw [hW2]; rfl
  have k3 : ∀ a, ((w.alloc (Obj.cells (flat recC (cs.take i) ++ Z).toArray 45)).drew.setCells w.heap.size (i * 5) (recC x)).frozen? a = W2.frozen? a := fun a => by rw [hW2]; rfl
  have k4 : Hid (But w.heap.size w ((w.alloc (Obj.cells (flat recC (cs.take i) ++ Z).toArray 45)).drew.setCells w.heap.size (i * 5) (recC x))) := But.setCells _ _ (But.of_below HBE.out)
  clear HB2 HBE hW2 hE1 hE2 hcpA hrz
  generalize (w.alloc (Obj.cells (flat recC (cs.take i) ++ Z).toArray 45)).drew.setCells w.heap.size (i * 5) (recC x) = w5 at *
  have hcp := hcpB w5.drew k2 k3
  have hfin : Hid (InsOk lo g c (cs.take i ++ [x] ++ cs.drop i) w (.returned (.slice (some ⟨w.heap.size, 0, none⟩) (c + 1) G)) (w5.drew.setCells w.heap.size ((i + 1) * 5) (flat recC (cs.drop i)))) := by
    refine HE _ (Blk.setCells _ _ (Blk.drew k1.out)) ?_
    exact (But.setCells _ _ (k4.out.step ((Below.refl _ _).drew))).below (Nat.le_refl _) (Nat.le_refl _)
  clear k1 k2 k3 k4 hcpB HE
  go_region_law (refine step_copy_runI rfl _ _ 28 28 rfl _ _ (by simp [Act.eval, Act.put]) (by simp [Act.eval, Act.put]) (hcp _ _ _) ?_)
  go_wp2_with fail
  go_ret
  exact hfin.out

theorem insertC_any (cs : List Ch) (x : Ch) (lo g n c i vb : Nat) (k : Int) (w : World) (h : w.ownsRow lo 45 5 (.slice (some ⟨g, 0, none⟩) n c) n (flat recC cs)) (hx : Blk w vb 45 (recC x).toArray) (hne : vb ≠ g) (hi : i ≤ n) (hz : (n + 1) * 56 ≤ reach) (hlo : lo ≤ w.heap.size) (hk : k = (i : Nat)) :
    Calls Tryd.prog 34 #[.slice (some ⟨g, 0, none⟩) n c, .int .i64 k, .slice (some ⟨vb, 0, none⟩) 1 1] w (InsOk lo g n (cs.take i ++ [x] ++ cs.drop i) w) := by
  subst hk
  rcases Nat.lt_or_ge i n with h1 | h1
  · rcases Nat.lt_or_ge c (n + 1) with h2 | h2
    · exact insert_grow cs x lo g n c i vb w h hx h1 h2 hz hlo
    · exact insert_shift cs x lo g n c i vb w h hx hne h1 h2
  · obtain rfl : i = n := by omega
    have hl : cs.length = i := by have := h.1; have := flat_length recC_length cs; omega
    have := insert_end cs x lo g i c vb w h hx hz hlo
    rw [List.take_of_length_le (by omega), List.drop_of_length_le (by omega), List.append_nil]
    exact this

end Go.Proofs.YtgcklgkhdokchaaDoor

namespace Go.Proofs.YtgcklgkhdokchaaDoor
open Go.RowKit

theorem eraseC_list (cs : List Ch) (R : List Value) (i : Nat) (hi : i < cs.length) : setList (setList (flat recC cs ++ R) (i * 5) (flat recC (cs.drop (i + 1)))) ((cs.length - 1) * 5) (recC Ch.zero) = flat recC (cs.eraseIdx i) ++ (recC Ch.zero ++ R) := by
  have hl := flat_length recC_length cs
  have hd := flat_length recC_length (cs.drop (i + 1))
  rw [List.length_drop] at hd
  have e1 : setList (flat recC cs ++ R) (i * 5) (flat recC (cs.drop (i + 1))) = flat recC (cs.eraseIdx i) ++ (flat recC (cs.drop (cs.length - 1)) ++ R) := by
    rw [setList_eq _ _ _ (by rw [List.length_append]; omega), List.take_append_of_le_length (by omega), flat_take recC_length, hd, show i * 5 + (cs.length - (i + 1)) * 5 = (cs.length - 1) * 5 by omega, List.drop_append_of_le_length (by omega), flat_drop recC_length, List.eraseIdx_eq_take_drop_succ, flat_append]
  have hel : (flat recC (cs.eraseIdx i)).length = (cs.length - 1) * 5 := by rw [flat_length recC_length, List.length_eraseIdx_of_lt hi]
  have hd2 := flat_length recC_length (cs.drop (cs.length - 1))
  rw [List.length_drop] at hd2
  have h5 : (recC Ch.zero).length = 5 := rfl
  have hd3 : (flat recC (cs.drop (cs.length - 1))).length = 5 := by omega
  rw [e1, setList_eq _ _ _ (by rw [List.length_append, List.length_append, hel, hd3, h5]; omega), ← hel, List.take_left, h5, List.append_assoc]
  congr 2
  rw [← List.append_assoc, show (flat recC (cs.eraseIdx i)).length + 5 = (flat recC (cs.eraseIdx i) ++ flat recC (cs.drop (cs.length - 1))).length by rw [List.length_append, hd3], List.drop_left]

set_option maxRecDepth 100000 in
theorem zero_chunk : ∀ w, (zeroValue 45).run Tryd.prog w = .ok (.agg (recC Ch.zero).toArray) w := fun _ => rfl

/-- what Delete leaves -/
def DelC (lo g n c : Nat) (cs : List Ch) (w : World) (e : Ending) (w' : World) : Prop :=
  e = .returned (.slice (some ⟨g, 0, none⟩) (n - 1) c) ∧ w'.ownsRow lo 45 5 (.slice (some ⟨g, 0, none⟩) (n - 1) c) (n - 1) (flat recC cs) ∧ But g w w'

set_option maxRecDepth 100000 in
set_option maxHeartbeats 800000 in
theorem deleteC_any (cs : List Ch) (lo g n c i : Nat) (w : World) (h : w.ownsRow lo 45 5 (.slice (some ⟨g, 0, none⟩) n c) n (flat recC cs)) (hi : i < n) :
    Calls Tryd.prog 35 #[.slice (some ⟨g, 0, none⟩) n c, .int .i64 i, .int .i64 ((i : Int) + 1)] w (DelC lo g n c (cs.eraseIdx i) w) := by
  obtain ⟨j0, hj0, hy0, hy1, hy2⟩ := info_parts info_chunk
  obtain ⟨R, hB, hlen, hnc, hcm, hge⟩ := own_blk h
  have hn : n = cs.length := by have := h.1; have := flat_length recC_length cs; omega
  unfold maxLen at hcm
  have hfl := flat_length recC_length cs
  have hcell : ∀ k, k < c * 5 → (w.cell? ⟨g, k, none⟩).isSome = true := by
    intro k hk
    rw [hB.cell, Array.getElem?_eq_getElem (by rw [List.size_toArray, hlen]; exact hk)]
    rfl
  have hdl : (flat recC (cs.drop (i + 1))).length = (n - (i + 1)) * 5 := by rw [flat_length recC_length, List.length_drop, hn]
  obtain ⟨A, hA, hnews⟩ : ∃ A : Addr, (if c = i + 1 then some (⟨g, 0, none⟩ : Addr) else some ⟨g, (i + 1) * 5, none⟩) = some A ∧ Hid (∀ k u, (flat recC (cs.drop (i + 1)))[k]? = some u → w.drew.cell? (A.add k) = some u) := by
    by_cases hq : c = i + 1
    · refine ⟨⟨g, 0, none⟩, by simp [hq], fun k u hu => ?_⟩
      have := (List.getElem?_eq_some_iff.1 hu).1
      omega
    · refine ⟨⟨g, (i + 1) * 5, none⟩, by simp [hq], fun k u hu => ?_⟩
      rw [addr_add]
      show w.cell? _ = _
      rw [hB.cell, List.getElem?_toArray]
      rw [← flat_drop recC_length, List.getElem?_drop] at hu
      rw [List.getElem?_append_left (List.getElem?_eq_some_iff.1 hu).1]
      exact hu
  have s1 : Hid ((flat recC (cs.drop (i + 1))).length = (n - (i + 1)) * 5) := hdl
  have s2 : Hid (∀ u ∈ flat recC (cs.drop (i + 1)), u.oneCell' = true) := flat_one recC_one _
  have s3 : Hid (∀ k, k < (flat recC (cs.drop (i + 1))).length → (w.drew.cell? ⟨g, 0 + i * 5 + k, none⟩).isSome = true ∧ w.drew.frozen? ⟨g, 0 + i * 5 + k, none⟩ = false) := by
    intro k hk
    exact ⟨hcell _ (by omega), hB.frozen _⟩
  obtain ⟨W1, hW1⟩ : ∃ W1, W1 = w.drew.setCells g (0 + i * 5) (flat recC (cs.drop (i + 1))) := ⟨_, rfl⟩
  have hB1 : Blk W1 g 45 (setList (flat recC cs ++ R) (i * 5) (flat recC (cs.drop (i + 1)))).toArray := by
    rw [hW1, Nat.zero_add]
    exact Blk.setCells _ _ (w := w.drew) hB.drew
  have hBut : But g w W1 := by
    rw [hW1]
    exact But.setCells _ _ (But.of_below ((Below.refl w.heap.size w).drew))
  have hsz : (setList (flat recC cs ++ R) (i * 5) (flat recC (cs.drop (i + 1)))).length = c * 5 := by
    rw [setList_eq _ _ _ (by omega)]
    simp only [List.length_append, List.length_take, List.length_drop] at hlen ⊢
    rw [hdl]
    omega
  have hcl : ∀ ty, (Builtin.clear_ #[28] ty #[.slice (some ⟨g, (n - 1) * 5, none⟩) 1 (c - (n - 1))]).run Tryd.prog W1 = .ok (.tuple #[]) (W1.setCells g ((n - 1) * 5) (recC Ch.zero)) := fun ty =>
    run_clear_one W1 _ _ ty _ _ Tryd.underlying28 zero_chunk rfl (recC_one _) g _ _ (fun k hk => by
      have hk5 : k < 5 := hk
      rw [hB1.cell, Array.getElem?_eq_getElem (by rw [List.size_toArray, hsz]; omega)]
      rfl) (fun k _ => hB1.frozen _)
  have HE : Hid (DelC lo g n c (cs.eraseIdx i) w (.returned (.slice (some ⟨g, 0, none⟩) (n - 1) c)) (W1.setCells g ((n - 1) * 5) (recC Ch.zero))) := by
    have := Blk.setCells (recC Ch.zero) ((n - 1) * 5) (w := W1) hB1
    rw [hn, eraseC_list cs R i (by omega)] at this
    have hel : (flat recC (cs.eraseIdx i)).length = (n - 1) * 5 := by rw [flat_length recC_length, List.length_eraseIdx_of_lt (by omega), hn]
    refine ⟨rfl, ?_, hBut.setCells _ _⟩
    rw [← hn] at this
    refine blk_own this hel ?_ (by omega) (by unfold maxLen; omega) hge
    rw [List.length_append] at hlen
    rw [List.length_append, List.length_append, hel, show (recC Ch.zero).length = 5 from rfl]
    omega
  have hW := Lib.hid hW1
  have hn0 : (n = 0) = False := by simp; omega
  have hni : (n = i) = False := by simp; omega
  have hi0 : (0 : Int) ≤ (i : Int) := by omega
  have hp0 : (0 : Int) ≤ (i : Int) + 1 := by omega
  have hp1 : (i : Int) + 1 ≤ (n : Int) := by omega
  have hp2 : ((i : Int) + 1).toNat = i + 1 := by omega
  have hic : i ≤ c := by omega
  have hicI : (i : Int) ≤ (c : Int) := by omega
  have hij : ((i : Int) == (i : Int) + 1) = false := by simp; omega
  have hnC := Lib.hid hn
  clear h hn hcell hdl hB1 hBut hsz hW1 hB hlen hfl hcm hge
  go_enter Tryd.func35, Tryd.ntmps35
  go_upto_region 5 with fail
  go_region_law (refine step_append_room rfl (.tmp 22) (.tmp 25) 28 rfl 45 j0 5 Tryd.underlying28 hj0 hy1 g 0 i c (by simp [Act.eval, Act.put]) A (n - (i + 1)) (c - (i + 1)) (flat recC (cs.drop (i + 1))) (by simp [Act.eval, Act.put]) s1.out hnews.out s2.out (by omega) s3.out ?_; rw [← hW.out])
  obtain ⟨m, hm⟩ : ∃ m, n = m + 1 := ⟨n - 1, by omega⟩
  rw [show i + (n - (i + 1)) = m by omega]
  rw [show n - 1 = m by omega] at hcl HE
  have f1 : (m : Int) ≤ (n : Int) := by omega
  have f2 : (0 : Int) ≤ (m : Int) := by omega
  have f3 : (c = m) = False := by simp; omega
  have f4 : n - m = 1 := by omega
  have f5 : (n : Int) ≤ (c : Int) := by omega
  clear hm hA hni hn0 hp0 hp1 hp2 hij
  go_wp2_with fail
  go_ret
  exact HE.out

end Go.Proofs.YtgcklgkhdokchaaDoor

namespace Go.Proofs.YtgcklgkhdokchaaDoor
open Go.RowKit

theorem KS.toB {w w' : World} {A : Option Addr} {n c : Nat} {ks : List Od} (h : KS w A n c ks) (hb : Below w.heap.size w w') : KSF (fun b => b < w.heap.size) w' A n c ks :=
  h.toF.keep hb.size fun b hF hlt => ⟨hF, hb.block b hlt⟩
theorem KSF.lt {F : Nat → Prop} {w : World} {A : Option Addr} {n c : Nat} {ks : List Od} (h : KSF F w A n c ks) : KSF (fun b => F b ∧ b < w.heap.size) w A n c ks :=
  h.keep (Nat.le_refl _) fun _ hF hlt => ⟨⟨hF, hlt⟩, rfl⟩

/-- routes in the variable that lies in block N; their chunks lie in a row of the call's own; blocks from hi on are others -/
structure Vr (B lo hi N : Nat) (w : World) (a : RA) (R : Ro) (cs : List Ch) (wr : World) : Prop where
  b0 : Blk wr N 30 (rarr a R)
  own : wr.ownsRow lo 45 5 (.slice a.CA a.cn a.cc) a.cn (flat recC cs)
  og : ∀ g, (Value.slice a.CA a.cn a.cc).ownBlock = some g → g < hi
  ks : KSF (fun b => ((b < B ∨ lo ≤ b) ∧ b < hi) ∧ (Value.slice a.CA a.cn a.cc).ownBlock ≠ some b) wr a.KA a.kn a.kc R.ks
  ln : a.cn = cs.length
  sz : a.cn * 56 ≤ reach
  bel : Below B w wr
  hn : B ≤ N ∧ N < lo ∧ lo ≤ hi ∧ hi ≤ wr.heap.size
section
variable {B lo hi N : Nat} {w wr w1 : World} {a : RA} {R : Ro} {cs : List Ch}
theorem Vr.step (h : Vr B lo hi N w a R cs wr) (hb : Below wr.heap.size wr w1) : Vr B lo hi N w a R cs w1 :=
  ⟨h.b0.step hb, own_step h.own hb, h.og, h.ks.keep hb.size fun b hF hlt => ⟨hF, hb.block b hlt⟩, h.ln, h.sz, h.bel.trans (hb.mono (by have := h.hn; omega)), ⟨h.hn.1, h.hn.2.1, h.hn.2.2.1, Nat.le_trans h.hn.2.2.2 hb.size⟩⟩
theorem Vr.of {a0 : RA} {R0 : Ro} (h0 : Blk w1 N 30 (rarr a0 R0)) (hN : B ≤ N) (hNl : N < lo)
    (hks : KSF (fun b => (b < B ∨ lo ≤ b) ∧ (Value.slice a.CA a.cn a.cc).ownBlock ≠ some b) w1 a.KA a.kn a.kc R.ks) (hown : w1.ownsRow lo 45 5 (.slice a.CA a.cn a.cc) a.cn (flat recC R.cs))
    (hln : a.cn = R.cs.length) (hsz : a.cn * 56 ≤ reach) (hlo : lo ≤ w1.heap.size) (hbel : Below B w w1) : Vr B lo w1.heap.size N w a R R.cs (setR w1 N a R) := by
  have hge := own_ge hown
  refine ⟨h0.putR, own_keep hown fun g hg => heap_setR _ _ _ _ g (by have := hge g hg; omega), fun g hg => own_lt hown hg, hks.lt.keep (by rw [size_setR]; exact Nat.le_refl _) fun b hF hlt => ⟨⟨⟨hF.1.1, hF.2⟩, hF.1.2⟩, heap_setR _ _ _ _ b (by have := hF.1.1; omega)⟩, hln, hsz, below_setR hbel hN _ _, ⟨hN, hNl, hlo, by rw [size_setR]; exact Nat.le_refl _⟩⟩
/-- a store into a chunk -/
theorem Vr.put {g : Nat} (h : Vr B lo hi N w a R cs wr) (hg : a.CA = some ⟨g, 0, none⟩) {i j : Nat} {c c' : Ch} {v : Value} (hi' : cs[i]? = some c) (hj : j < 5) (he : (recC c).set j v = recC c') : Vr B lo hi N w a R (cs.set i c') (wr.setCell ⟨g, i * 5 + j, none⟩ v) := by
  obtain ⟨KA, kn, kc, CA, cn, cc⟩ := a
  simp only at hg
  subst hg
  have hge := own_ge h.own g rfl
  have ho := own_set h.own (i * 5 + j) v
  rw [flat_setj recC_length hi' hj he] at ho
  refine ⟨h.b0.far (by show N ≠ g; have := h.hn; omega) _, ho, h.og, h.ks.keep (by simp [World.setCell]) fun b hF _ => ⟨hF, Below.heap_setCell _ _ _ b (by show b ≠ g; intro e; exact hF.2 (by rw [e]; rfl))⟩, by rw [List.length_set]; exact h.ln, h.sz, h.bel.setCell (by show B ≤ g; have := h.hn; omega) _, ?_⟩
  have := h.hn
  simpa using this
/-- a store into another block -/
theorem Vr.far (h : Vr B lo hi N w a R cs wr) {p : Addr} (hp : hi ≤ p.block ∨ (B ≤ p.block ∧ p.block < lo ∧ p.block ≠ N)) (v : Value) : Vr B lo hi N w a R cs (wr.setCell p v) := by
  have hn := h.hn
  refine ⟨h.b0.far (by omega) _, own_far h.own (fun e => by have := h.og _ e; have := own_ge h.own _ e; omega) _, h.og, h.ks.keep (by simp [World.setCell]) fun b hF _ => ⟨hF, Below.heap_setCell _ _ _ b (by have := hF.1; omega)⟩, h.ln, h.sz, h.bel.setCell (by omega) _, by simpa using hn⟩
theorem Vr.get (h : Vr B lo hi N w a R cs wr) {i : Nat} {c : Ch} (hi' : cs[i]? = some c) : ∃ g, a.CA = some ⟨g, 0, none⟩ ∧ lo ≤ g ∧ g < hi ∧ ∀ j v, (recC c)[j]? = some v → wr.cell? ⟨g, i * 5 + j, none⟩ = some v ∧ wr.frozen? ⟨g, i * 5 + j, none⟩ = false := by
  obtain ⟨KA, kn, kc, CA, cn, cc⟩ := a
  have hl : i < cs.length := (List.getElem?_eq_some_iff.1 hi').1
  have hln : cn = cs.length := h.ln
  obtain ⟨g, cap, hv, hge, _⟩ := h.own.form (by show 0 < cn; omega)
  have hv2 : CA = some ⟨g, 0, none⟩ := by injection hv
  subst hv2
  exact ⟨g, rfl, hge, h.og g rfl, fun j v hv => own_cell h.own (flat_get recC_length hi' hv)⟩
end

/-- what is left at the end of a change -/
theorem change_end {B lo g1 : Nat} {w wr : World} {a b : RA} {R S : Ro} (hB : B = w.heap.size) (h1 : Blk wr g1 30 (rarr b S)) (hg : B ≤ g1) (hgl : g1 < lo) (hsp : R.sp.size ≤ reach)
    (hks : KSF (fun b => b < B ∨ lo ≤ b) wr a.KA a.kn a.kc R.ks) (hown : wr.ownsRow lo 45 5 (.slice a.CA a.cn a.cc) a.cn (flat recC R.cs)) (hln : a.cn = R.cs.length) (hsz : a.cn * 56 ≤ reach) (hbel : Below B w wr) :
    RouOk (R, 0) w (.returned (.tuple #[rval a R, .int .i64 0])) (setR wr g1 a R) ∧ Blk (setR wr g1 a R) g1 30 (rarr a R) := by
  subst hB
  have ho := own_keep hown (w' := setR wr g1 a R) fun g hg => heap_setR _ _ _ _ g (by have := own_ge hown g hg; omega)
  obtain ⟨A', c', hv, hsr⟩ := SR.of_own recC_length ho hln.symm
  injection hv with e1 e2 e3
  subst e1 e3
  refine ⟨⟨a, rfl, ⟨hsp, (hks.keep (G := fun _ => True) (by rw [size_setR]; exact Nat.le_refl _) fun b hF _ => ⟨trivial, heap_setR _ _ _ _ b (by omega)⟩).ks, ⟨hsr, hsz⟩⟩, below_setR hbel hg _ _⟩, h1.putR⟩
theorem change_err {g1 : Nat} {w wr : World} {b : RA} {S : Ro} (n : Int) (h1 : Blk wr g1 30 (rarr b S)) (hg : w.heap.size ≤ g1) (hbel : Below w.heap.size w wr) :
    RouOk (Ro.zero, n) w (.returned (.tuple #[rval RA.zero Ro.zero, .int .i64 n])) (setR wr g1 RA.zero Ro.zero) ∧ Blk (setR wr g1 RA.zero Ro.zero) g1 30 (rarr RA.zero Ro.zero) :=
  ⟨⟨RA.zero, rfl, RR.zero, below_setR hbel hg _ _⟩, h1.putR⟩
theorem RouOk.eq {r s : Ro × Int} {w w' : World} {e : Ending} (h : r = s) (k : RouOk s w e w') : RouOk r w e w' := by rw [h]; exact k
theorem set_two {cs : List Ch} {i : Nat} {c d : Ch} : (cs.set i c).set i d = cs.set i d := by simp

end Go.Proofs.YtgcklgkhdokchaaDoor

namespace Go.Proofs.YtgcklgkhdokchaaDoor
open Go.RowKit

theorem blk_ro {w : World} {g : Nat} {t : TypeId} {a : RA} {R : Ro} (h : Blk w g t (rarr a R)) : w.cell? ⟨g, 0, none⟩ = some (.string R.sp) ∧ w.cell? ⟨g, 1, none⟩ = some (.slice a.KA a.kn a.kc) ∧ w.cell? ⟨g, 2, none⟩ = some (.bool R.ha) ∧ w.cell? ⟨g, 3, none⟩ = some (.int .i64 R.ep) ∧ w.cell? ⟨g, 4, none⟩ = some (.int .i64 R.ver) ∧ w.cell? ⟨g, 5, none⟩ = some (.slice a.CA a.cn a.cc) ∧ ∀ i, w.frozen? ⟨g, i, none⟩ = false := by
  refine ⟨?_, ?_, ?_, ?_, ?_, ?_, h.frozen⟩ <;> rw [h.cell] <;> rfl

set_option maxRecDepth 100000 in
set_option maxHeartbeats 800000 in
theorem split_any (R : Ro) (a : RA) (key : ByteArray) (w : World) (h : RR w a R) : Calls Tryd.prog 16 #[rval a R, .string key] w (RouOk (splitR R key) w) := by
  obtain ⟨KA, kn, kc, CA, cn, cc⟩ := a
  have H := Lib.hid h
  clear h
  have B0 : Hid (Blk ((w.alloc (Obj.cells (rarr ⟨KA, kn, kc, CA, cn, cc⟩ R) 30)).alloc (Obj.cells (rarr RA.zero Ro.zero) 30)) w.heap.size 30 (rarr ⟨KA, kn, kc, CA, cn, cc⟩ R)) := (Blk.new_at rfl).alloc _
  have B1 : Hid (Blk ((w.alloc (Obj.cells (rarr ⟨KA, kn, kc, CA, cn, cc⟩ R) 30)).alloc (Obj.cells (rarr RA.zero Ro.zero) 30)) (w.heap.size + 1) 30 (rarr RA.zero Ro.zero)) := Blk.new_at (by simp)
  have BE : Hid (Below w.heap.size w ((w.alloc (Obj.cells (rarr ⟨KA, kn, kc, CA, cn, cc⟩ R) 30)).alloc (Obj.cells (rarr RA.zero Ro.zero) 30))) := ((Below.refl _ _).alloc (Nat.le_refl _) _).alloc (by simp) _
  go_enter Tryd.func16, Tryd.ntmps16
  go_upto_region 1 with fail
  change (Code.region 1 _ _).wp _ _ _ ((w.alloc (Obj.cells (rarr ⟨KA, kn, kc, CA, cn, cc⟩ R) 30)).alloc (Obj.cells (rarr RA.zero Ro.zero) 30))
  generalize (w.alloc (Obj.cells (rarr ⟨KA, kn, kc, CA, cn, cc⟩ R) 30)).alloc (Obj.cells (rarr RA.zero Ro.zero) 30) = wa at *
  obtain ⟨q0, q1, q2, q3, q4, q5, qz⟩ := blk_ro B0.out
  simp only at q1 q5
  go_wp2_with fail
  clear q0 q1 q2 q3 q4 q5 qz
  refine (find_any R ⟨KA, kn, kc, CA, cn, cc⟩ key wa (H.out.step BE.out)).mono ?_
  rintro e w1 ⟨rfl, hb1⟩
  have D0 := Lib.hid (B0.out.step hb1)
  have D1 := Lib.hid (B1.out.step hb1)
  have DE := Lib.hid (BE.out.step' hb1)
  clear hb1 B0 B1 BE
  cases hk0 : (key.toList == [])
  rotate_left
  · have HV : Hid (splitR R key = (Ro.zero, 1)) := by unfold Hid splitR; rw [if_pos (.inl (by simpa using hk0))]
    obtain ⟨r0, r1, r2, r3, r4, r5, rz⟩ := blk_ro D1.out
    have E := Lib.hid (change_err 1 D1.out (by omega) DE.out)
    go_wp2_with fail
    refine bodyPost_ret (results_ro_err rfl _ (w.heap.size + 1) rfl _ rfl _ RA.zero Ro.zero E.out.2) rfl ?_
    exact E.out.1.eq HV.out
  obtain ⟨q0, q1, q2, q3, q4, q5, qz⟩ := blk_ro D0.out
  simp only at q1 q5
  go_wp2_with fail
  clear q0 q1 q2 q3 q4 q5 qz
  refine (begins_any R ⟨KA, kn, kc, CA, cn, cc⟩ key w1 (H.out.step DE.out)).mono ?_
  rintro e w2 ⟨rfl, hb2⟩
  have F0 := Lib.hid (D0.out.step hb2)
  have F1 := Lib.hid (D1.out.step hb2)
  have FE := Lib.hid (DE.out.step' hb2)
  clear hb2 D0 D1 DE
  by_cases hbg : 0 ≤ idxI (begB key) R.cs
  · have HV : Hid (splitR R key = (Ro.zero, 1)) := by unfold Hid splitR; rw [if_pos (.inr (.inl hbg))]
    obtain ⟨r0, r1, r2, r3, r4, r5, rz⟩ := blk_ro F1.out
    have E := Lib.hid (change_err 1 F1.out (by omega) FE.out)
    go_wp2_with fail
    refine bodyPost_ret (results_ro_err rfl _ (w.heap.size + 1) rfl _ rfl _ RA.zero Ro.zero E.out.2) rfl ?_
    exact E.out.1.eq HV.out
  rcases idxI_range (inB key) R.cs with ⟨hf, _⟩ | ⟨i, c, hf, hic, hin, _⟩
  · have HV : Hid (splitR R key = (Ro.zero, 1)) := by unfold Hid splitR; rw [if_pos (.inr (.inr (by omega)))]
    obtain ⟨r0, r1, r2, r3, r4, r5, rz⟩ := blk_ro F1.out
    have E := Lib.hid (change_err 1 F1.out (by omega) FE.out)
    rw [hf]
    clear hf
    go_wp2_with fail
    refine bodyPost_ret (results_ro_err rfl _ (w.heap.size + 1) rfl _ rfl _ RA.zero Ro.zero E.out.2) rfl ?_
    exact E.out.1.eq HV.out
  rw [hf]
  have hn : Hid (cn = R.cs.length) := H.out.cs.ln
  have HV : Hid (splitR R key = if 64 ≤ R.cs.length then (Ro.zero, 2) else if c.ju then (Ro.zero, 23) else (⟨R.sp, R.ks, R.ha, R.ep, nx R.ver, repl R.cs i 1 [⟨c.lo, key, c.sh, nx R.ver, c.ju⟩, ⟨key, c.hi, c.sh, nx R.ver, c.ju⟩]⟩, 0)) := by
    unfold Hid splitR
    rw [if_neg (by rintro (h | h | h); simp [h] at hk0; exact hbg h; omega), hf, Int.toNat_natCast, hic]
  have HIC := Lib.hid hic
  clear hic hin hf
  obtain ⟨q0, q1, q2, q3, q4, q5, qz⟩ := blk_ro F0.out
  simp only at q1 q5
  by_cases h64 : 64 ≤ cn
  · have HV : Hid (splitR R key = (Ro.zero, 2)) := by rw [Hid, HV.out, if_pos (by rw [← hn.out]; exact h64)]
    obtain ⟨r0, r1, r2, r3, r4, r5, rz⟩ := blk_ro F1.out
    have E := Lib.hid (change_err 2 F1.out (by omega) FE.out)
    go_wp2_with fail
    refine bodyPost_ret (results_ro_err rfl _ (w.heap.size + 1) rfl _ rfl _ RA.zero Ro.zero E.out.2) rfl ?_
    exact E.out.1.eq HV.out
  have hicn : i < cn := by rw [hn.out]; exact (List.getElem?_eq_some_iff.1 HIC.out).1
  obtain ⟨b, off, x, hA, hbl, hx, _, _, _, _, e4⟩ := H.out.cs.sr.at5 hicn
  rw [HIC.out] at hx
  injection hx with hx
  subst hx
  simp only at hA
  subst hA
  have j4 := (FE.out.cell (p := ⟨b, off + i * 5 + 4, none⟩) hbl).trans e4
  clear e4
  cases hju : c.ju
  rotate_left
  · have HV : Hid (splitR R key = (Ro.zero, 23)) := by rw [Hid, HV.out, if_neg (by rw [← hn.out]; omega), if_pos hju]
    obtain ⟨r0, r1, r2, r3, r4, r5, rz⟩ := blk_ro F1.out
    have E := Lib.hid (change_err 23 F1.out (by omega) FE.out)
    rw [hju] at j4
    go_wp2_with fail
    refine bodyPost_ret (results_ro_err rfl _ (w.heap.size + 1) rfl _ rfl _ RA.zero Ro.zero E.out.2) rfl ?_
    exact E.out.1.eq HV.out
  rw [hju] at j4
  have hch := changed_any w.heap.size R ⟨KA, kn, kc, some ⟨b, off, none⟩, cn, cc⟩ w2 FE.out.size (H.out.ks.toB FE.out) (H.out.cs.step FE.out)
  have hSR : R.nx.cs = R.cs := rfl
  obtain ⟨S, hS⟩ : ∃ S, S = R.nx := ⟨_, rfl⟩
  rw [← hS] at hch hSR
  have HS := Lib.hid hS
  have HSR := Lib.hid hSR
  clear hS hSR
  have HCH := Lib.hid hch
  clear hch
  go_wp2_with fail
  clear q0 q1 q2 q3 q4 q5 qz j4
  refine HCH.out.mono ?_
  rintro e w3 ⟨⟨KA', kn', kc', CA', cn', cc'⟩, rfl, hks, hown, hln, hcz, hb3⟩
  have hN := F0.out.lt
  have hN1 := F1.out.lt
  have hcn' : cn' = cn := by rw [hn.out, ← HSR.out]; exact hln
  have V0 := Lib.hid (Vr.of (B := w.heap.size) (w := w) (lo := w2.heap.size) (N := w.heap.size) (F0.out.step hb3) (Nat.le_refl _) hN hks hown hln hcz hb3.size (FE.out.step' hb3))
  have V1 : Hid (Blk (setR w3 w.heap.size ⟨KA', kn', kc', CA', cn', cc'⟩ S) (w.heap.size + 1) 30 (rarr RA.zero Ro.zero)) := (heap_setR _ _ _ _ _ (by omega)).trans (F1.out.step hb3)
  obtain ⟨q0, q1, q2, q3, q4, q5, qz⟩ := blk_ro (F0.out.step hb3)
  simp only at q1 q5
  subst hcn'
  clear hks hown hb3
  have HCZ := Lib.hid hcz
  clear hcz hln
  have hh2 := Lib.hid (show w2.heap.size ≤ w3.heap.size from V0.out.hn.2.2.1)
  go_upto_region 9 with fail
  clear q0 q1 q2 q3 q4 q5 qz
  change (Code.region 9 _ _).wp _ _ _ (setR w3 w.heap.size ⟨KA', kn', kc', CA', cn', cc'⟩ S)
  generalize setR w3 w.heap.size ⟨KA', kn', kc', CA', cn', cc'⟩ S = w4 at *
  rw [HSR.out] at V0
  obtain ⟨g, hgA, hgl, hgh, hgc⟩ := V0.out.get HIC.out
  simp only at hgA
  subst hgA
  obtain ⟨q0, q1, q2, q3, q4, q5, qz⟩ := blk_ro V0.out.b0
  simp only at q1 q5
  obtain ⟨c3, z3⟩ := hgc 3 _ rfl
  have HGC := Lib.hid hgc
  clear hgc
  have W0 := Lib.hid (V0.out.put (g := g) rfl HIC.out (j := 3) (v := .int .i64 S.ver) (c' := ⟨c.lo, c.hi, c.sh, S.ver, c.ju⟩) (by omega) rfl)
  have W1 := Lib.hid (V1.out.far (p := ⟨g, i * 5 + 3, none⟩) (by show w.heap.size + 1 ≠ g; omega) (.int .i64 S.ver))
  go_upto_region 10 with fail
  clear q0 q1 q2 q3 q4 q5 qz c3 z3 HGC V0 V1
  generalize w4.setCell ⟨g, i * 5 + 3, none⟩ (.int .i64 S.ver) = w5 at *
  have hi' : (R.cs.set i ⟨c.lo, c.hi, c.sh, S.ver, c.ju⟩)[i]? = some ⟨c.lo, c.hi, c.sh, S.ver, c.ju⟩ := by rw [List.getElem?_set, if_pos rfl, if_pos (List.getElem?_eq_some_iff.1 HIC.out).1]
  have HI' := Lib.hid hi'
  clear hi'
  obtain ⟨g', hgA, _, _, hgc⟩ := W0.out.get HI'.out
  injection hgA with hgA
  injection hgA with hgA
  subst hgA
  obtain ⟨q0, q1, q2, q3, q4, q5, qz⟩ := blk_ro W0.out.b0
  simp only at q1 q5
  have c0 := (hgc 0 _ rfl).1
  have c1 := (hgc 1 _ rfl).1
  have c2 := (hgc 2 _ rfl).1
  have c3 := (hgc 3 _ rfl).1
  have c4 := (hgc 4 _ rfl).1
  simp only [Nat.add_zero] at c0
  have z1 := (hgc 1 _ rfl).2
  clear hgc
  go_upto_region 12 with fail
  have X0 := Lib.hid (W0.out.step ((Below.refl w5.heap.size w5).alloc (Nat.le_refl _) (Obj.cells #[.string key, .string c.hi, .int .i64 c.sh, .int .i64 S.ver, .bool false] 45)))
  have X1 := Lib.hid (W1.out.alloc (Obj.cells #[.string key, .string c.hi, .int .i64 c.sh, .int .i64 S.ver, .bool false] 45))
  have X2 : Hid (Blk (w5.alloc (Obj.cells #[.string key, .string c.hi, .int .i64 c.sh, .int .i64 S.ver, .bool false] 45)) w5.heap.size 45 #[.string key, .string c.hi, .int .i64 c.sh, .int .i64 S.ver, .bool false]) := Blk.new_at rfl
  have hgU : g < w5.heap.size := by have := W0.out.hn; omega
  have hNU : w.heap.size + 1 < w5.heap.size := W1.out.lt
  clear q0 q1 q2 q3 q4 q5 qz c0 c1 c2 c3 c4 z1 W0 W1
  generalize w5.alloc (Obj.cells #[.string key, .string c.hi, .int .i64 c.sh, .int .i64 S.ver, .bool false] 45) = w6 at *
  generalize w5.heap.size = U at *
  obtain ⟨g', hgA, _, _, hgc⟩ := X0.out.get HI'.out
  injection hgA with hgA
  injection hgA with hgA
  subst hgA
  obtain ⟨c1, z1⟩ := hgc 1 _ rfl
  clear hgc
  obtain ⟨q0, q1, q2, q3, q4, q5, qz⟩ := blk_ro X0.out.b0
  simp only at q1 q5
  have hset : (R.cs.set i ⟨c.lo, c.hi, c.sh, S.ver, c.ju⟩).set i ⟨c.lo, key, c.sh, S.ver, c.ju⟩ = R.cs.set i ⟨c.lo, key, c.sh, S.ver, c.ju⟩ := set_two
  have Y0 := Lib.hid (X0.out.put (g := g) rfl HI'.out (j := 1) (v := .string key) (c' := ⟨c.lo, key, c.sh, S.ver, c.ju⟩) (by omega) rfl)
  rw [hset] at Y0
  clear hset
  have Y1 := Lib.hid (X1.out.far (p := ⟨g, i * 5 + 1, none⟩) (by show w.heap.size + 1 ≠ g; omega) (.string key))
  have Y2 := Lib.hid (X2.out.far (p := ⟨g, i * 5 + 1, none⟩) (by show U ≠ g; omega) (.string key))
  go_upto_region 13 with fail
  clear q0 q1 q2 q3 q4 q5 qz c1 z1 X0 X1 X2
  generalize w6.setCell ⟨g, i * 5 + 1, none⟩ (.string key) = w7 at *
  obtain ⟨q0, q1, q2, q3, q4, q5, qz⟩ := blk_ro Y0.out.b0
  simp only at q1 q5
  have u0 := Y2.out.cell 0
  have u1 := Y2.out.cell 1
  have u2 := Y2.out.cell 2
  have u3 := Y2.out.cell 3
  have u4 := Y2.out.cell 4
  simp at u0 u1 u2 u3 u4
  have Z0 := Lib.hid (Y0.out.step ((Below.refl w7.heap.size w7).alloc (Nat.le_refl _) (Obj.cells #[.string key, .string c.hi, .int .i64 c.sh, .int .i64 S.ver, .bool false] 45)))
  have Z1 := Lib.hid (Y1.out.alloc (Obj.cells #[.string key, .string c.hi, .int .i64 c.sh, .int .i64 S.ver, .bool false] 45))
  have Z2 : Hid (Blk (w7.alloc (Obj.cells #[.string key, .string c.hi, .int .i64 c.sh, .int .i64 S.ver, .bool false] 45)) w7.heap.size 45 (recC ⟨key, c.hi, c.sh, S.ver, false⟩).toArray) := Blk.new_at rfl
  have hgV : g < w7.heap.size := by have := Y0.out.hn; omega
  have hnz : (cn' + 1) * 56 ≤ reach := by unfold reach; omega
  have hwr : ((i : Int) + 1) = ((i + 1 : Nat) : Int) := by omega
  have HI3 := Lib.hid (insertC_any (R.cs.set i ⟨c.lo, key, c.sh, S.ver, c.ju⟩) ⟨key, c.hi, c.sh, S.ver, false⟩ w2.heap.size g cn' cc' (i + 1) w7.heap.size ((i : Int) + 1) _ Z0.out.own Z2.out (by omega) (by omega) hnz (by have := Z0.out.hn; omega) hwr)
  have HH := Lib.hid Z0.out.hn
  clear hwr hnz Z2
  go_wp2_with fail
  clear q0 q1 q2 q3 q4 q5 qz u0 u1 u2 u3 u4
  refine HI3.out.mono ?_
  rintro e w9 ⟨A, c9, rfl, hown9, hg9⟩
  have hNg : some w.heap.size ≠ some g := by simp; omega
  have hNg1 : some (w.heap.size + 1) ≠ some g := by simp; omega
  have P0 := Lib.hid (Z0.out.b0.grown hg9 hNg)
  have P1 := Lib.hid (Z1.out.grown hg9 hNg1)
  obtain ⟨q0, q1, q2, q3, q4, q5, qz⟩ := blk_ro P0.out
  simp only at q1 q5
  have G0 : Hid (Blk (w9.setCell ⟨w.heap.size, 5, none⟩ (.slice A (cn' + 1) c9)) w.heap.size 30 (rarr ⟨KA', kn', kc', A, cn' + 1, c9⟩ S)) := P0.out.set_ 5 _
  have G1 : Hid (Blk (w9.setCell ⟨w.heap.size, 5, none⟩ (.slice A (cn' + 1) c9)) (w.heap.size + 1) 30 (rarr RA.zero Ro.zero)) := P1.out.far (by show w.heap.size + 1 ≠ w.heap.size; omega) _
  have G2 := Lib.hid (own_far hown9 (p := ⟨w.heap.size, 5, none⟩) (fun e => by have := own_ge hown9 _ e; simp only at this; omega) (.slice A (cn' + 1) c9))
  have G3 : Hid (KSF (fun b => b < w.heap.size ∨ w2.heap.size ≤ b) (w9.setCell ⟨w.heap.size, 5, none⟩ (.slice A (cn' + 1) c9)) KA' kn' kc' S.ks) :=
    Z0.out.ks.keep (by have := hg9.size; simpa [World.setCell] using this) fun b hF hlt => ⟨hF.1.1, by rw [Below.heap_setCell _ _ _ b (by show b ≠ w.heap.size; have := hF.1.1; omega)]; exact hg9.block b hlt (fun e => hF.2 (by injection e with e; rw [e]; rfl))⟩
  have G4 : Hid (Below w.heap.size w (w9.setCell ⟨w.heap.size, 5, none⟩ (.slice A (cn' + 1) c9))) := (Z0.out.bel.grown hg9 (by have := Z0.out.hn; omega) (fun k hk => by injection hk with hk; omega)).setCell (Nat.le_refl _) _
  go_upto_region 14 with fail
  clear q0 q1 q2 q3 q4 q5 qz hown9 hg9 P0 P1 Z0 Z1 HI3
  generalize w9.setCell ⟨w.heap.size, 5, none⟩ (.slice A (cn' + 1) c9) = w10 at *
  obtain ⟨q0, q1, q2, q3, q4, q5, qz⟩ := blk_ro G0.out
  simp only at q1 q5
  obtain ⟨r0, r1, r2, r3, r4, r5, rz⟩ := blk_ro G1.out
  have HVS : Hid (splitR R key = (⟨S.sp, S.ks, S.ha, S.ep, S.ver, (R.cs.set i ⟨c.lo, key, c.sh, S.ver, c.ju⟩).take (i + 1) ++ [⟨key, c.hi, c.sh, S.ver, false⟩] ++ (R.cs.set i ⟨c.lo, key, c.sh, S.ver, c.ju⟩).drop (i + 1)⟩, 0)) := by
    rw [Hid, HV.out, if_neg (by rw [← hn.out]; omega), if_neg (by rw [hju]; simp), insert_repl (by rw [← hn.out]; exact hicn), HS.out, hju]
    rfl
  have E := Lib.hid (change_end (R := ⟨S.sp, S.ks, S.ha, S.ep, S.ver, (R.cs.set i ⟨c.lo, key, c.sh, S.ver, c.ju⟩).take (i + 1) ++ [⟨key, c.hi, c.sh, S.ver, false⟩] ++ (R.cs.set i ⟨c.lo, key, c.sh, S.ver, c.ju⟩).drop (i + 1)⟩) (a := ⟨KA', kn', kc', A, cn' + 1, c9⟩) rfl G1.out (by omega) (by omega) (by rw [HS.out]; exact H.out.sp) G3.out G2.out (by simp; have := hn.out; omega) (by show (cn' + 1) * 56 ≤ reach; unfold reach; omega) G4.out)
  clear G0 G1 G2 G3 G4 HV HS HSR
  go_wp2_with fail
  clear q0 q1 q2 q3 q4 q5 qz r0 r1 r2 r3 r4 r5 rz
  refine bodyPost_ret (results_ro_err rfl _ (w.heap.size + 1) rfl _ rfl _ ⟨KA', kn', kc', A, cn' + 1, c9⟩ _ E.out.2) rfl ?_
  exact E.out.1.eq HVS.out

end Go.Proofs.YtgcklgkhdokchaaDoor
