/- Parts of the proof, joined: ValRows, ChRepA, ShAt, ValTake, ShKv. -/
import Derived.Test.YtlmmgjgkmbmgpaaGreatDoorEb2
/- Rows of values and fields of the call's own. -/
namespace Go.Proofs.YtlmmgjgkmbmgpaaGreatDoor
open Go.RowKit

theorem flat_at' {α : Type} {rec : α → List Value} {s : Nat} (hs : ∀ a, (rec a).length = s) (hp : 0 < s) (xs : List α) (k : Nat) (hk : k < xs.length * s) : ∃ a v, xs[k / s]? = some a ∧ (rec a)[k % s]? = some v ∧ (flat rec xs)[k]? = some v := by
  have h1 : k / s < xs.length := Nat.div_lt_of_lt_mul (by rw [Nat.mul_comm]; exact hk)
  have h2 : k % s < s := Nat.mod_lt _ hp
  refine ⟨xs[k / s], (rec xs[k / s])[k % s]'(by rw [hs]; exact h2), List.getElem?_eq_getElem h1, List.getElem?_eq_getElem (by rw [hs]; exact h2), ?_⟩
  have := flat_get hs (List.getElem?_eq_getElem h1) (List.getElem?_eq_getElem (l := rec xs[k / s]) (i := k % s) (by rw [hs]; exact h2))
  rw [show k / s * s + k % s = k by rw [Nat.mul_comm]; exact Nat.div_add_mod k s] at this
  exact this
/-- a row whose cells are known, whole -/
theorem blk_of_row {α : Type} {rec : α → List Value} {s : Nat} (hs : ∀ a, (rec a).length = s) (hp : 0 < s) {w : World} {g : Nat} {t : TypeId} {L : List α} (h : Row w g t (L.length * s)) (hel : ∀ j p, L[j]? = some p → ∀ i v, (rec p)[i]? = some v → w.cell? ⟨g, j * s + i, none⟩ = some v) : Blk w g t (flat rec L).toArray := by
  obtain ⟨cs, h1, h2⟩ := h
  have e : cs = (flat rec L).toArray := by
    apply Array.ext'
    apply List.ext_getElem?
    intro k
    by_cases hk : k < L.length * s
    · obtain ⟨p, v, g1, g2, g3⟩ := flat_at' hs hp L k hk
      rw [List.toList_toArray, g3]
      have hc := h1.cell k
      have hv := hel (k / s) p g1 (k % s) v g2
      rw [show k / s * s + k % s = k by rw [Nat.mul_comm]; exact Nat.div_add_mod k s, hc] at hv
      rw [← hv]
      simp
    · rw [List.getElem?_eq_none (by simp; omega), List.getElem?_eq_none (by rw [List.toList_toArray, flat_length hs]; omega)]
  rw [← e]
  exact h1
theorem own_of_blk {α : Type} {rec : α → List Value} {s : Nat} (hs : ∀ a, (rec a).length = s) {w : World} {g : Nat} {t : TypeId} {L : List α} (h : Blk w g t (flat rec L).toArray) {base : Nat} (hb : base ≤ g) (hm : L.length ≤ maxLen) : w.ownsRow base t s (.slice (some ⟨g, 0, none⟩) L.length L.length) L.length (flat rec L) :=
  ⟨flat_length hs L, .inr ⟨g, L.length, (flat rec L).toArray, rfl, hb, h, Nat.le_refl _, hm, by simp [flat_length hs], by rw [List.toList_toArray, ← flat_length hs]; exact List.take_length⟩⟩

theorem Cl.step {lo mid : Nat} {w w' : World} {c : VC} {x : Val} (h : Cl lo mid w c x) (hb : Below w.heap.size w w') : Cl lo mid w' c x := by
  refine ⟨h.k, h.n, h.t, h.tsz, h.ln, h.lc, h.lsz, h.l0, fun hn => ?_, h.hmid, h.dn, h.dc, h.dsz, h.d0, fun hn => ?_⟩
  · obtain ⟨g, h1, h2, h3, h4, h5⟩ := h.la hn
    refine ⟨g, h1, h2, h3, h4.step hb, fun i y hi => ?_⟩
    obtain ⟨e, k1, k2⟩ := h5 i y hi
    exact ⟨e, k1.step hb, k2.step hb⟩
  · obtain ⟨g, h1, h2, h3, h4⟩ := h.da hn
    refine ⟨g, h1, h2, h3.step hb, fun i f hi => ?_⟩
    obtain ⟨k0, kz, e, k1, k2⟩ := h4 i f hi
    exact ⟨(hb.cell (p := ⟨g, i * 6, none⟩) h3.lt).trans k0, kz, e, k1.step hb, k2.step hb⟩

/-- the fields of a copy, as a row of its own -/
theorem gr_cell {w3 w4 : World} {o : Obj} {row : Option Nat} (hg : (w3.alloc o).grownBy w4 row) {p : Addr} {v : Value} (h : w3.cell? p = some v) (hne : row ≠ some p.block) : w4.cell? p = some v := by
  have hlt := World.block_lt_of_cell? w3 p h
  rw [World.cell?_of_block (w := w3.alloc o) (hg.block p.block (by simp; omega) (fun e => hne e.symm)), World.cell?_alloc_lt w3 o p hlt]
  exact h
theorem Cl.own {lo mid : Nat} {w : World} {c : VC} {x : Val} (h : Cl lo mid w c x) : ∃ fs : List PF, fs.map Prod.snd = x.d ∧ w.ownsRow lo 98 6 (.slice c.DA c.dn c.dc) c.dn (flat recF fs) ∧
    ∀ p ∈ fs, p.2.s.size ≤ reach ∧ RV (fun b => lo ≤ b ∧ (Value.slice c.DA c.dn c.dc).ownBlock ≠ some b) w p.1 p.2.v := by
  have hdc := h.dc
  by_cases hn : 0 < c.dn
  · obtain ⟨g, hA, hg, hrow, hel⟩ := h.da hn
    obtain ⟨fs, h1, h2⟩ := choose_list (p := fun i (f : Fld) (v : VC) => w.cell? ⟨g, i * 6, none⟩ = some (.string f.s) ∧ f.s.size ≤ reach ∧ VAt w g (i * 6 + 1) v ∧ RV (fun b => g < b) w v f.v) (l := x.d) (fun i f hf => by
      obtain ⟨h1, h2, v, h3, h4⟩ := hel i f hf
      exact ⟨v, h1, h2, h3, h4⟩)
    have hl : fs.length = c.dn := by rw [h.dn, ← h1]; simp
    have hb : Blk w g 98 (flat recF fs).toArray := blk_of_row recF_length (by omega) (by rw [hl]; exact hrow) (fun j p hp i v hv => by
      obtain ⟨k0, _, k1, _⟩ := h2 j p hp
      cases i with
      | zero => simp [recF] at hv; subst hv; exact k0
      | succ i =>
        have := vat_cell k1 i v (by simpa [recF] using hv)
        rw [show j * 6 + (i + 1) = j * 6 + 1 + i by omega]
        exact this)
    have hz := h.dsz
    unfold reach at hz
    have := own_of_blk recF_length hb (base := lo) (by have := h.hmid; omega) (by rw [hl]; unfold maxLen; omega)
    rw [hl] at this
    refine ⟨fs, h1, by rw [hA, hdc]; exact this, fun p hp => ?_⟩
    obtain ⟨i, hi⟩ := List.getElem?_of_mem hp
    obtain ⟨_, k2, _, k4⟩ := h2 i p hi
    refine ⟨k2, k4.mono fun b hb => ⟨by have := h.hmid; omega, ?_⟩⟩
    rw [hA]
    simp [Value.ownBlock]
    omega
  · have h0 : c.dn = 0 := by omega
    have hx : x.d = [] := List.eq_nil_of_length_eq_zero (by rw [← h.dn]; exact h0)
    refine ⟨[], by rw [hx]; rfl, ?_, fun p hp => by simp at hp⟩
    rw [h.d0 h0, hdc, h0]
    exact own_nil _ _ _ _

theorem SL.keepG {F G : Nat → Prop} {w w' : World} {A : Option Addr} {n c : Nat} {ps : List PV} (h : SL F w A n c ps) (hk : ∀ b, F b → b < w.heap.size → G b ∧ w'.heap[b]? = w.heap[b]?) : SL G w' A n c ps := by
  refine ⟨⟨h.sr.ln, h.sr.lc, fun hn => ?_⟩, h.sz, fun hn => ?_, fun p hp => (h.rv p hp).keepG hk⟩
  · obtain ⟨b, off, h1, h2, h3⟩ := h.sr.el hn
    obtain ⟨b', off', h1', hF⟩ := h.blk hn
    rw [h1] at h1'
    cases h1'
    have he := (hk b hF.1 h2).2
    refine ⟨b, off, h1, ?_, fun i a hi j v hj => (World.cell?_of_block (w := w) (a := ⟨b, off + i * 5 + j, none⟩) he).trans (h3 i a hi j v hj)⟩
    rcases Nat.lt_or_ge b w'.heap.size with hlt | hge
    · exact hlt
    · rw [Array.getElem?_eq_none hge, Array.getElem?_eq_getElem h2] at he
      cases he
  · obtain ⟨b, off, h1, h2, h3⟩ := h.sr.el hn
    obtain ⟨b', off', h1', hF⟩ := h.blk hn
    rw [h1] at h1'
    cases h1'
    exact ⟨b, off, h1, hF.keepG h2 hk⟩
theorem own_keep {w w' : World} {base : Nat} {e : TypeId} {size n : Nat} {v : Value} {xs : List Value} (h : w.ownsRow base e size v n xs) (hk : ∀ g, v.ownBlock = some g → w'.heap[g]? = w.heap[g]?) : w'.ownsRow base e size v n xs := by
  refine ⟨h.1, ?_⟩
  rcases h.2 with h2 | ⟨g, cap, cur, rfl, hg, hh, hr⟩
  · exact .inl h2
  · exact .inr ⟨g, cap, cur, rfl, hg, (hk g rfl).trans hh, hr⟩

end Go.Proofs.YtlmmgjgkmbmgpaaGreatDoor


/- Chunks, orders and routes as plain data, and what it means that memory reads as them. · Chunks: the plain law. What the functions of the program compute. · Paths: the contracts of path.notName, slices.ContainsFunc and path.Valid. -/
namespace Go.Proofs.YtlmmgjgkmbmgpaaGreatDoor
open Go.RowKit

/-- a chunk -/
structure Ch where
  lo : ByteArray
  hi : ByteArray
  sh : Int
  ver : Int
  ju : Bool
def recC (c : Ch) : List Value := [.string c.lo, .string c.hi, .int .i64 c.sh, .int .i64 c.ver, .bool c.ju]
abbrev aggC (c : Ch) : Value := .agg #[.string c.lo, .string c.hi, .int .i64 c.sh, .int .i64 c.ver, .bool c.ju]
def Ch.zero : Ch := ⟨ByteArray.empty, ByteArray.empty, 0, 0, false⟩
theorem recC_length (c : Ch) : (recC c).length = 5 := rfl
theorem recC_one (c : Ch) : ∀ u ∈ recC c, u.oneCell' = true := by
  intro u hu
  simp only [recC, List.mem_cons, List.not_mem_nil, or_false] at hu
  rcases hu with rfl | rfl | rfl | rfl | rfl <;> rfl
/-- the cells of a text -/
def recT (s : ByteArray) : List Value := [.string s]
theorem recT_length (s : ByteArray) : (recT s).length = 1 := rfl
theorem recT_one (s : ByteArray) : ∀ u ∈ recT s, u.oneCell' = true := by
  intro u hu
  simp only [recT, List.mem_cons, List.not_mem_nil, or_false] at hu
  subst hu
  rfl
/-- an order in memory -/
structure OC where
  A : Option Addr
  n : Nat
  c : Nat
  d : Bool
def recO (o : OC) : List Value := [.slice o.A o.n o.c, .bool o.d]
abbrev aggO (o : OC) : Value := .agg #[.slice o.A o.n o.c, .bool o.d]
def OC.zero : OC := ⟨none, 0, 0, false⟩
theorem recO_length (c : OC) : (recO c).length = 2 := rfl
theorem recO_one (c : OC) : ∀ u ∈ recO c, u.oneCell' = true := by
  intro u hu
  simp only [recO, List.mem_cons, List.not_mem_nil, or_false] at hu
  rcases hu with rfl | rfl <;> rfl
/-- an order -/
structure Od where
  p : List ByteArray
  d : Bool
/-- routes -/
structure Ro where
  sp : ByteArray
  ks : List Od
  ha : Bool
  ep : Int
  ver : Int
  cs : List Ch
def Ro.zero : Ro := ⟨ByteArray.empty, [], false, 0, 0, []⟩

/-- a slice of texts -/
structure ST (w : World) (A : Option Addr) (n c : Nat) (l : List ByteArray) : Prop where
  sr : SR 1 recT w A n c l
  sz : n * 16 ≤ reach
  el : ∀ s ∈ l, s.size ≤ reach
theorem ST.step {w w' : World} {A : Option Addr} {n c : Nat} {l : List ByteArray} (h : ST w A n c l) (hb : Below w.heap.size w w') : ST w' A n c l := ⟨h.sr.step hb, h.sz, h.el⟩
theorem ST.alloc {w : World} {A : Option Addr} {n c : Nat} {l : List ByteArray} (h : ST w A n c l) (o : Obj) : ST (w.alloc o) A n c l := h.step ((Below.refl _ _).alloc (Nat.le_refl _) o)
/-- an order reads -/
structure OR (w : World) (o : OC) (q : Od) : Prop where
  d : o.d = q.d
  st : ST w o.A o.n o.c q.p
theorem OR.step {w w' : World} {o : OC} {q : Od} (h : OR w o q) (hb : Below w.heap.size w w') : OR w' o q := ⟨h.d, h.st.step hb⟩
/-- a slice of orders -/
structure KO (w : World) (A : Option Addr) (n c : Nat) (os : List OC) (ks : List Od) : Prop where
  sr : SR 2 recO w A n c os
  sz : n * 32 ≤ reach
  ln : os.length = ks.length
  el : ∀ (i : Nat) (o : OC) (q : Od), os[i]? = some o → ks[i]? = some q → OR w o q
theorem KO.step {w w' : World} {A : Option Addr} {n c : Nat} {os : List OC} {ks : List Od} (h : KO w A n c os ks) (hb : Below w.heap.size w w') : KO w' A n c os ks := ⟨h.sr.step hb, h.sz, h.ln, fun i o q h1 h2 => (h.el i o q h1 h2).step hb⟩
def KS (w : World) (A : Option Addr) (n c : Nat) (ks : List Od) : Prop := ∃ os, KO w A n c os ks
theorem KS.step {w w' : World} {A : Option Addr} {n c : Nat} {ks : List Od} (h : KS w A n c ks) (hb : Below w.heap.size w w') : KS w' A n c ks := by obtain ⟨os, h⟩ := h; exact ⟨os, h.step hb⟩
theorem KS.nil {w : World} {A : Option Addr} {c : Nat} : KS w A 0 c [] := ⟨[], SR.nil, by show 0 * 32 ≤ reach; decide, rfl, fun i o q h => by simp at h⟩
theorem KS.ln {w : World} {A : Option Addr} {n c : Nat} {ks : List Od} (h : KS w A n c ks) : n = ks.length := by obtain ⟨os, h⟩ := h; rw [h.sr.ln, h.ln]
/-- a slice of chunks -/
structure CS (w : World) (A : Option Addr) (n c : Nat) (l : List Ch) : Prop where
  sr : SR 5 recC w A n c l
  sz : n * 56 ≤ reach
theorem CS.step {w w' : World} {A : Option Addr} {n c : Nat} {l : List Ch} (h : CS w A n c l) (hb : Below w.heap.size w w') : CS w' A n c l := ⟨h.sr.step hb, h.sz⟩
theorem CS.nil {w : World} {A : Option Addr} {c : Nat} : CS w A 0 c [] := ⟨SR.nil, by show 0 * 56 ≤ reach; decide⟩
theorem CS.ln {w : World} {A : Option Addr} {n c : Nat} {l : List Ch} (h : CS w A n c l) : n = l.length := h.sr.ln

/-- where the slices of routes lie -/
structure RA where
  KA : Option Addr
  kn : Nat
  kc : Nat
  CA : Option Addr
  cn : Nat
  cc : Nat
def RA.zero : RA := ⟨none, 0, 0, none, 0, 0⟩
abbrev rarr (a : RA) (R : Ro) : Array Value := #[.string R.sp, .slice a.KA a.kn a.kc, .bool R.ha, .int .i64 R.ep, .int .i64 R.ver, .slice a.CA a.cn a.cc]
abbrev rval (a : RA) (R : Ro) : Value := .agg (rarr a R)
structure RR (w : World) (a : RA) (R : Ro) : Prop where
  sp : R.sp.size ≤ reach
  ks : KS w a.KA a.kn a.kc R.ks
  cs : CS w a.CA a.cn a.cc R.cs
theorem RR.step {w w' : World} {a : RA} {R : Ro} (h : RR w a R) (hb : Below w.heap.size w w') : RR w' a R := ⟨h.sp, h.ks.step hb, h.cs.step hb⟩
theorem RR.alloc {w : World} {a : RA} {R : Ro} (h : RR w a R) (o : Obj) : RR (w.alloc o) a R := h.step ((Below.refl _ _).alloc (Nat.le_refl _) o)
theorem RR.zero {w : World} : RR w RA.zero Ro.zero := ⟨by show 0 ≤ reach; decide, KS.nil, CS.nil⟩

/-- a record lies at an address -/
theorem SR.at5 {w : World} {A : Option Addr} {n c : Nat} {l : List Ch} (h : SR 5 recC w A n c l) {i : Nat} (hi : i < n) : ∃ b off x, A = some ⟨b, off, none⟩ ∧ b < w.heap.size ∧ l[i]? = some x ∧
    w.cell? ⟨b, off + i * 5, none⟩ = some (.string x.lo) ∧ w.cell? ⟨b, off + i * 5 + 1, none⟩ = some (.string x.hi) ∧ w.cell? ⟨b, off + i * 5 + 2, none⟩ = some (.int .i64 x.sh) ∧ w.cell? ⟨b, off + i * 5 + 3, none⟩ = some (.int .i64 x.ver) ∧ w.cell? ⟨b, off + i * 5 + 4, none⟩ = some (.bool x.ju) := by
  obtain ⟨b, off, e, hb, hc⟩ := h.el (by omega)
  have hl : i < l.length := by have := h.ln; omega
  have h1 := List.getElem?_eq_getElem hl
  exact ⟨b, off, l[i], e, hb, h1, hc i _ h1 0 _ rfl, hc i _ h1 1 _ rfl, hc i _ h1 2 _ rfl, hc i _ h1 3 _ rfl, hc i _ h1 4 _ rfl⟩
theorem SR.at2 {w : World} {A : Option Addr} {n c : Nat} {l : List OC} (h : SR 2 recO w A n c l) {i : Nat} (hi : i < n) : ∃ b off x, A = some ⟨b, off, none⟩ ∧ b < w.heap.size ∧ l[i]? = some x ∧
    w.cell? ⟨b, off + i * 2, none⟩ = some (.slice x.A x.n x.c) ∧ w.cell? ⟨b, off + i * 2 + 1, none⟩ = some (.bool x.d) := by
  obtain ⟨b, off, e, hb, hc⟩ := h.el (by omega)
  have hl : i < l.length := by have := h.ln; omega
  have h1 := List.getElem?_eq_getElem hl
  exact ⟨b, off, l[i], e, hb, h1, hc i _ h1 0 _ rfl, hc i _ h1 1 _ rfl⟩
theorem SR.at1 {w : World} {A : Option Addr} {n c : Nat} {l : List ByteArray} (h : SR 1 recT w A n c l) {i : Nat} (hi : i < n) : ∃ b off x, A = some ⟨b, off, none⟩ ∧ b < w.heap.size ∧ l[i]? = some x ∧
    w.cell? ⟨b, off + i, none⟩ = some (.string x) := by
  obtain ⟨b, off, e, hb, hc⟩ := h.el (by omega)
  have hl : i < l.length := by have := h.ln; omega
  have h1 := List.getElem?_eq_getElem hl
  exact ⟨b, off, l[i], e, hb, h1, by simpa using hc i _ h1 0 _ rfl⟩

theorem info_chunk : (Tryz.prog.info? 80).map (fun i => (i.zero, i.size, i.bytes)) = some (some (aggC Ch.zero), 5, 56) := by kernel_rfl
theorem info_order : (Tryz.prog.info? 130).map (fun i => (i.zero, i.size, i.bytes)) = some (some (aggO OC.zero), 2, 32) := by kernel_rfl
theorem info_string : (Tryz.prog.info? 9).map (fun i => (i.zero, i.size, i.bytes)) = some (some (.string ByteArray.empty), 1, 16) := by kernel_rfl

/-- what a slice of records reads as -/
theorem SR.reads {α : Type} {rec : α → List Value} {s : Nat} (hs : ∀ a, (rec a).length = s) (hp : 0 < s) {w : World} {A : Option Addr} {n c : Nat} {xs : List α} (h : SR s rec w A n c xs) : Reads w w.heap.size s A n (flat rec xs) := by
  refine ⟨by rw [flat_length hs, h.ln], fun hn => ?_⟩
  obtain ⟨b, off, e, hb, hel⟩ := h.el hn
  subst e
  refine ⟨_, rfl, hb, fun j u hu => ?_⟩
  have hj := (List.getElem?_eq_some_iff.1 hu).1
  rw [flat_length hs] at hj
  obtain ⟨a, v, g1, g2, g3⟩ := flat_at' hs hp xs j hj
  have := hel (j / s) a g1 (j % s) v g2
  rw [addr_add]
  rw [g3] at hu
  cases hu
  have hdm := Nat.div_add_mod j s
  rw [Nat.mul_comm] at hdm
  rw [show off + j = off + j / s * s + j % s by omega]
  exact this
theorem flat_one {α : Type} {rec : α → List Value} (h1 : ∀ a, ∀ u ∈ rec a, u.oneCell' = true) (xs : List α) : ∀ u ∈ flat rec xs, u.oneCell' = true := by
  intro u hu
  obtain ⟨p, _, hp⟩ := List.mem_flatMap.1 hu
  exact h1 p u hp

end Go.Proofs.YtlmmgjgkmbmgpaaGreatDoor

namespace Go.Proofs.YtlmmgjgkmbmgpaaGreatDoor
open Go.RowKit

section
variable {α : Type}
/-- the index of the first element that fulfils p, -1 if there is none -/
def idxFrom (p : α → Bool) : List α → Nat → Int
  | [], _ => -1
  | c :: r, i => if p c then (i : Int) else idxFrom p r (i + 1)
def idxI (p : α → Bool) (l : List α) : Int := idxFrom p l 0
theorem idxFrom_range (p : α → Bool) : ∀ (l : List α) (k : Nat), (idxFrom p l k = -1 ∧ ∀ c ∈ l, p c = false) ∨ ∃ (i : Nat) (c : α), idxFrom p l k = (k + i : Nat) ∧ l[i]? = some c ∧ p c = true ∧ ∀ j, j < i → ∀ d, l[j]? = some d → p d = false := by
  intro l
  induction l with
  | nil => intro k; exact .inl ⟨rfl, fun _ h => by simp at h⟩
  | cons c r ih =>
    intro k
    cases hc : p c
    · rw [idxFrom, hc, if_neg (by simp)]
      rcases ih (k + 1) with ⟨h1, h2⟩ | ⟨i, d, h1, h2, h3, h4⟩
      · refine .inl ⟨h1, fun x hx => ?_⟩
        rcases List.mem_cons.1 hx with rfl | hx
        · exact hc
        · exact h2 x hx
      · refine .inr ⟨i + 1, d, by rw [h1]; omega, by simpa using h2, h3, fun j hj e he => ?_⟩
        cases j with
        | zero => simp at he; subst he; exact hc
        | succ j => exact h4 j (by omega) e (by simpa using he)
    · rw [idxFrom, hc, if_pos rfl]
      exact .inr ⟨0, c, rfl, rfl, hc, fun j hj => absurd hj (by omega)⟩
theorem idxI_range (p : α → Bool) (l : List α) : (idxI p l = -1 ∧ ∀ c ∈ l, p c = false) ∨ ∃ (i : Nat) (c : α), idxI p l = (i : Nat) ∧ l[i]? = some c ∧ p c = true ∧ ∀ j, j < i → ∀ d, l[j]? = some d → p d = false := by
  rcases idxFrom_range p l 0 with h | ⟨i, c, h1, h⟩
  · exact .inl h
  · exact .inr ⟨i, c, by rw [idxI, h1, Nat.zero_add], h⟩
/-- n elements from a place on are replaced by others -/
def repl (l : List α) (at_ n : Nat) (new : List α) : List α := l.take at_ ++ new ++ l.drop (at_ + n)
theorem set_repl {l : List α} {i : Nat} (h : i < l.length) (x : α) : l.set i x = repl l i 1 [x] := by
  rw [List.set_eq_take_append_cons_drop, if_pos h, repl]
  simp
end

def begB (key : ByteArray) (c : Ch) : Bool := c.lo.toList == key.toList
def inB (key : ByteArray) (c : Ch) : Bool := !(Op.bytesLess key.toList c.lo.toList) && (c.hi.toList == [] || Op.bytesLess key.toList c.hi.toList)
def shB (s : Int) (c : Ch) : Bool := c.sh == s

/-- a path is valid -/
def pathB (p : List ByteArray) : Bool := decide (1 ≤ p.length) && decide (p.length ≤ 16) && p.all nameB
/-- two paths are the same -/
def sameP : List ByteArray → List ByteArray → Bool
  | [], [] => true
  | a :: r, b :: s => (a.toList == b.toList) && sameP r s
  | _, _ => false
def ordL : List Od → List Od → Int
  | _, [] => 0
  | done, o :: r => if pathB o.p = false then 10 else if done.any (fun e => sameP e.p o.p) then 12 else ordL (done ++ [o]) r
def ordE (ks : List Od) : Int := if 8 < ks.length then 2 else ordL [] ks
def keyE (ks : List Od) (ha : Bool) : Int := if ordE ks ≠ 0 then ordE ks else if ks.length = 0 ∨ (ha = true ∧ 1 < ks.length) then 11 else if ks.any (·.d) then 11 else 0
def badC (v : Int) (c : Ch) : Bool := decide (c.sh < 0) || decide (8 ≤ c.sh) || decide (c.ver < 1) || decide (v < c.ver)
/-- the chunks follow each other -/
def linkB : List Ch → Bool
  | [] => true
  | [_] => true
  | a :: b :: r => (b.lo.toList == a.hi.toList) && !(Op.bytesLess b.lo.toList a.lo.toList || b.lo.toList == a.lo.toList) && linkB (b :: r)
def endsB (l : List Ch) : Bool := match l with
  | [] => false
  | a :: r => (a.lo.toList == []) && (((a :: r).getLast?.map (·.hi.toList)) == some [])
def routE (R : Ro) : Int :=
  if nameB R.sp = false then 9 else if keyE R.ks R.ha ≠ 0 then keyE R.ks R.ha else if 64 < R.cs.length then 2 else if R.ep < 1 ∨ R.ver < 1 then 1
  else if R.cs.any (badC R.ver) then 1 else if endsB R.cs = false then 4 else if linkB R.cs = false then 4 else 0

/-- the next version -/
def nx (v : Int) : Int := wrap64 (v + 1)
/-- the first chunk of a shard gets a version -/
def touch (l : List Ch) (s v : Int) : List Ch :=
  if idxI (shB s) l < 0 then l else match l[(idxI (shB s) l).toNat]? with
    | none => l
    | some c => l.set (idxI (shB s) l).toNat ⟨c.lo, c.hi, c.sh, v, c.ju⟩
def giveR (R : Ro) (key : ByteArray) (z : Int) : Ro × Int :=
  if idxI (begB key) R.cs < 0 then (Ro.zero, 15)
  else if z < 0 ∨ 8 ≤ z then (Ro.zero, 1)
  else match R.cs[(idxI (begB key) R.cs).toNat]? with
    | none => (Ro.zero, 15)
    | some c => if c.sh = z ∨ c.ju = true then (Ro.zero, 23) else (⟨R.sp, R.ks, R.ha, R.ep, nx R.ver, touch (repl R.cs (idxI (begB key) R.cs).toNat 1 [⟨c.lo, c.hi, z, nx R.ver, c.ju⟩]) c.sh (nx R.ver)⟩, 0)
/-- what a change hands back -/
def RouOk (r : Ro × Int) (w : World) (e : Ending) (w' : World) : Prop :=
  ∃ a : RA, e = .returned (.tuple #[rval a r.1, .int .i64 r.2]) ∧ RR w' a r.1 ∧ Below w.heap.size w w'

end Go.Proofs.YtlmmgjgkmbmgpaaGreatDoor

namespace Go.Proofs.YtlmmgjgkmbmgpaaGreatDoor
open Go.RowKit

theorem idxFrom_at {α : Type} {p : α → Bool} {l : List α} {i : Nat} {x : α} (h : l[i]? = some x) : idxFrom p (l.drop i) i = if p x then (i : Int) else idxFrom p (l.drop (i + 1)) (i + 1) := by rw [drop_of h, idxFrom]
theorem idxFrom_end {α : Type} {p : α → Bool} {l : List α} {i : Nat} (h : l.length ≤ i) : idxFrom p (l.drop i) i = -1 := by rw [List.drop_of_length_le h, idxFrom]

end Go.Proofs.YtlmmgjgkmbmgpaaGreatDoor


/- The contracts of shardkey.at and of the reference's KeyValue. -/
namespace Go.Proofs.YtlmmgjgkmbmgpaaGreatDoor
open Go.RowKit

def nullV : Val := .mk 2 0 ByteArray.empty [] []
def nullC : VC := ⟨2, 0, ByteArray.empty, none, 0, 0, none, 0, 0⟩
theorem rv_null {F : Nat → Prop} {w : World} : RV F w nullC nullV :=
  RVs.shut ⟨rfl, rfl, rfl, by decide, rfl, Nat.le_refl _, by decide, fun h => absurd h (by decide), rfl, Nat.le_refl _, by decide, fun h => absurd h (by decide)⟩
/-- the key value of a document at a path -/
def keyAt : Val → List ByteArray → Option Val
  | x, [] => if x.k = 6 then none else some x
  | x, s :: r => if x.k = 6 then none else match getV x s with
    | none => some nullV
    | some y => keyAt y r
theorem keyAt_list {x : Val} (h : x.k = 6) (l : List ByteArray) : keyAt x l = none := by cases l <;> rw [keyAt, if_pos h]
theorem keyAt_end {x : Val} (h : x.k ≠ 6) : keyAt x [] = some x := by rw [keyAt, if_neg h]
theorem keyAt_none {x : Val} {s : ByteArray} {r : List ByteArray} (h : x.k ≠ 6) (hg : getV x s = none) : keyAt x (s :: r) = some nullV := by rw [keyAt, if_neg h, hg]
theorem keyAt_some {x y : Val} {s : ByteArray} {r : List ByteArray} (h : x.k ≠ 6) (hg : getV x s = some y) : keyAt x (s :: r) = keyAt y r := by rw [keyAt, if_neg h, hg]
theorem getV_kind {x : Val} (s : ByteArray) (h : x.k ≠ 5) : getV x s = none := by
  refine getV_none ?_
  unfold findI
  rw [if_neg (by simpa using h)]

/-- a key value is handed back -/
def AtOk (F : Nat → Prop) (x : Val) (l : List ByteArray) (w : World) (e : Ending) (w' : World) : Prop :=
  ∃ u : VC, e = .returned (.tuple #[u.val, .bool (keyAt x l).isSome]) ∧ (∀ y, keyAt x l = some y → RV (fun b => F b ∨ w.heap.size ≤ b) w' u y) ∧ Below w.heap.size w w'

theorem AtOk.drew {F : Nat → Prop} {x : Val} {l : List ByteArray} {w : World} {e : Ending} {w' : World} (h : AtOk F x l w e w') : AtOk F x l w e w'.drew := by
  obtain ⟨u, h1, h2, h3⟩ := h
  exact ⟨u, h1, fun y hy => (h2 y hy).keep fun _ _ => rfl, h3.drew⟩

structure AtI (F : Nat → Prop) (w : World) (u : VC) (y : Val) (wr : World) : Prop where
  b1 : Blk wr (w.heap.size + 1) 46 VC.zero.arr
  b2 : Blk wr (w.heap.size + 2) 46 nullC.arr
  b3 : Blk wr (w.heap.size + 3) 46 u.arr
  rv : RV (fun b => (F b ∧ b < w.heap.size) ∨ w.heap.size + 4 ≤ b) wr u y
  bel : Below w.heap.size w wr
theorem AtI.step {F : Nat → Prop} {w wr w' : World} {u : VC} {y : Val} (h : AtI F w u y wr) (hb : Below wr.heap.size wr w') : AtI F w u y w' := ⟨h.b1.step hb, h.b2.step hb, h.b3.step hb, h.rv.step hb, h.bel.step' hb⟩
theorem AtI.start {F : Nat → Prop} {w : World} {c : VC} {x : Val} (h : RV F w c x) : AtI F w c x ((((w.alloc (Obj.cells c.arr 46)).alloc (Obj.cells VC.zero.arr 46)).alloc (Obj.cells nullC.arr 46)).alloc (Obj.cells c.arr 46)) := by
  have h1 : Below w.heap.size w ((((w.alloc (Obj.cells c.arr 46)).alloc (Obj.cells VC.zero.arr 46)).alloc (Obj.cells nullC.arr 46)).alloc (Obj.cells c.arr 46)) := ((((Below.refl _ _).alloc (Nat.le_refl _) _).alloc (by simp) _).alloc (by simp; omega) _).alloc (by simp; omega) _
  exact ⟨((Blk.new_at (by simp)).alloc _).alloc _, (Blk.new_at (by simp)).alloc _, Blk.new_at (by simp), h.lt.keepG fun b hb hl => ⟨.inl hb, h1.block b hb.2⟩, h1⟩

theorem at_end {F : Nat → Prop} {w wr w' : World} {u : VC} {y x : Val} {l : List ByteArray} {e : Ending} (h : AtI F w u y wr) (c' : VC) (o : Option Val) (ho : keyAt x l = o) (b : Bool) (hb : b = o.isSome) (he : e = .returned (.tuple #[c'.val, .bool b])) (hw : w' = setV wr (w.heap.size + 1) 0 c') (hr : ∀ z, o = some z → RV (fun b => F b ∨ w.heap.size ≤ b) (setV wr (w.heap.size + 1) 0 c') c' z) : AtOk F x l w e w' := by
  subst ho
  subst hb
  subst he
  subst hw
  exact ⟨c', rfl, hr, below_setV h.bel (by omega) 0 c'⟩
theorem AtI.put {F : Nat → Prop} {w wr : World} {u c' : VC} {y z : Val} (h : AtI F w u y wr) (hr : RV (fun b => w.heap.size + 4 ≤ b) wr c' z) : AtI F w c' z (setV wr (w.heap.size + 3) 0 c') :=
  ⟨h.b1.farV (by omega) 0 c', h.b2.farV (by omega) 0 c', h.b3.putV c', hr.keepG fun b hb _ => ⟨.inr hb, heap_setV (by omega)⟩, below_setV h.bel (by omega) 0 c'⟩
theorem AtI.rvput {F : Nat → Prop} {w wr : World} {u : VC} {y : Val} (h : AtI F w u y wr) : RV (fun b => F b ∨ w.heap.size ≤ b) (setV wr (w.heap.size + 1) 0 u) u y :=
  h.rv.keepG fun b hb _ => ⟨hb.elim (fun q => .inl q.1) (fun q => .inr (by omega)), heap_setV (hb.elim (fun q => by have := q.2; omega) (fun q => by omega))⟩

set_option maxRecDepth 100000 in
set_option maxHeartbeats 800000 in
theorem at_any {F : Nat → Prop} (x : Val) (c : VC) (A : Option Addr) (n cc : Nat) (l : List ByteArray) (w : World) (h : RV F w c x) (hp : ST w A n cc l) :
    Calls Tryz.prog 104 #[c.val, .slice A n cc] w (AtOk F x l w) := by
  have HP := Lib.hid hp
  have HL : Hid (n = l.length) := hp.sr.ln
  have hnz : (n : Int) ≤ 8796093022208 := by have := hp.sz; unfold reach at this; omega
  have I0 := Lib.hid (AtI.start h)
  clear h hp
  go_enter Tryz.func104, Tryz.ntmps104
  go_upto_region 4 with fail
  change Code.wp _ _ _ _ ((((w.alloc (Obj.cells c.arr 46)).alloc (Obj.cells VC.zero.arr 46)).alloc (Obj.cells nullC.arr 46)).alloc (Obj.cells c.arr 46))
  generalize ((((w.alloc (Obj.cells c.arr 46)).alloc (Obj.cells VC.zero.arr 46)).alloc (Obj.cells nullC.arr 46)).alloc (Obj.cells c.arr 46)) = wa at *
  go_loopw [9, 10, 11, 16, 28] (fun _ _ _ u16 _ wr => ∃ (i : Nat) (u : VC) (y : Val), i ≤ n ∧ u16 = .int .i64 i ∧ keyAt x l = keyAt y (l.drop i) ∧ AtI F w u y wr) (fun _ _ _ u16 _ _ => n - (intOf u16).toNat)
  case atStart => exact ⟨0, c, x, Nat.zero_le _, rfl, rfl, I0.out⟩
  case round =>
    obtain ⟨i, u, y, hi, rfl, hk, J⟩ := hrel
    have HK := Lib.hid hk
    have J2 := Lib.hid J
    clear I0 hk J
    have huk : u.k = y.k := J2.out.rv.open.k
    have HUK := Lib.hid huk
    clear huk
    have z1 := J2.out.b1.frozen
    have z3 := J2.out.b3.frozen
    obtain ⟨a0, a1, a2, a3, a4⟩ := VAt.of_blk J2.out.b1
    obtain ⟨n0, n1, n2, n3, n4⟩ := VAt.of_blk J2.out.b2
    obtain ⟨q0, q1, q2, q3, q4⟩ := VAt.of_blk J2.out.b3
    simp only [Nat.zero_add] at a0 a1 a2 a3 a4 n0 n1 n2 n3 n4 q0 q1 q2 q3 q4
    by_cases hlt : i < n
    · obtain ⟨b, off, s, hA, hbw, hs, hcell⟩ := HP.out.sr.at1 hlt
      subst hA
      have hcell2 := (J2.out.bel.cell (p := ⟨b, off + i, none⟩) hbw).trans hcell
      have HD : Hid (l.drop i = s :: l.drop (i + 1)) := drop_of hs
      have i0' : (0 : Int) ≤ (i : Int) := by omega
      have i1' : (i : Int) < (n : Int) := by omega
      clear hs hcell hbw
      by_cases h6 : u.k = 6
      · have HR : Hid (keyAt x l = none) := by rw [Hid, HK.out]; exact keyAt_list (by rw [← HUK.out]; exact h6) _
        have h6b : (u.k == 6) = true := by simpa using h6
        clear h6
        go_wp2_with fail
        have q := VAt.of_blk (J2.out.b1.putV VC.zero)
        refine bodyPost_ret (results_val_ok rfl _ _ _ rfl _ rfl _ VC.zero q) rfl ?_
        exact at_end J2.out VC.zero none HR.out false rfl rfl rfl (fun y hy => by cases hy)
      · have h6b : (u.k == 6) = false := by simpa using h6
        have h6y : y.k ≠ 6 := by rw [← HUK.out]; exact h6
        by_cases h5 : u.k = 5
        · have h5b : (u.k != 5) = false := by simp [h5]
          clear h5 h6
          have HG := Lib.hid (get_any y u s wr (J2.out.rv.mono fun _ _ => trivial))
          go_upto_region 10 with fail
          go_wp2_with fail
          refine HG.out.mono ?_
          rintro e w1 ⟨c', rfl, hr, hb⟩
          have J3 := Lib.hid (J2.out.step hb)
          have HR1 := Lib.hid hr
          have HSZ : Hid (w.heap.size + 4 ≤ wr.heap.size) := J2.out.b3.lt
          have HSZ2 : Hid (wr.heap.size ≤ w1.heap.size) := hb.size
          clear a0 a1 a2 a3 a4 n0 n1 n2 n3 n4 q0 q1 q2 q3 q4 z1 z3 hr hb HG
          cases hg : getV y s with
          | none =>
            rw [hg] at HR1
            have HR : Hid (keyAt x l = some nullV) := by rw [Hid, HK.out, HD.out]; exact keyAt_none h6y hg
            clear hg
            go_upto_region 11 with fail
            change Code.wp _ _ _ _ (w1.alloc (Obj.cells c'.arr 46))
            have J4 := Lib.hid (J3.out.step ((Below.refl w1.heap.size w1).alloc (Nat.le_refl _) (Obj.cells c'.arr 46)))
            generalize w1.alloc (Obj.cells c'.arr 46) = w2 at *
            have z1 := J4.out.b1.frozen
            obtain ⟨a0, a1, a2, a3, a4⟩ := VAt.of_blk J4.out.b1
            obtain ⟨n0, n1, n2, n3, n4⟩ := VAt.of_blk J4.out.b2
            simp only [Nat.zero_add] at a0 a1 a2 a3 a4 n0 n1 n2 n3 n4
            go_wp2_with fail
            have q := VAt.of_blk (J4.out.b1.putV nullC)
            refine bodyPost_ret (results_val_ok rfl _ _ _ rfl _ rfl _ nullC q) rfl ?_
            exact at_end J4.out nullC (some nullV) HR.out true rfl rfl rfl (fun y hy => by cases hy; exact rv_null)
          | some z =>
            rw [hg] at HR1
            have HR : Hid (keyAt x l = keyAt z (l.drop (i + 1))) := by rw [Hid, HK.out, HD.out]; exact keyAt_some h6y hg
            clear hg
            go_upto_region 11 with fail
            change Code.wp _ _ _ _ (w1.alloc (Obj.cells c'.arr 46))
            have J4 := Lib.hid (J3.out.step ((Below.refl w1.heap.size w1).alloc (Nat.le_refl _) (Obj.cells c'.arr 46)))
            have JC : Hid (Blk (w1.alloc (Obj.cells c'.arr 46)) w1.heap.size 46 c'.arr) := Blk.new_at rfl
            have HR2 := Lib.hid (HR1.out.lt.keepG (G := fun b => w.heap.size + 4 ≤ b) (w' := w1.alloc (Obj.cells c'.arr 46)) fun b hb hl => ⟨Nat.le_trans HSZ.out hb.1, Below.heap_alloc _ _ _ hl⟩)
            have hgl : w.heap.size + 3 < w1.heap.size := by have h1 := HSZ.out; have h2 := HSZ2.out; omega
            generalize w1.alloc (Obj.cells c'.arr 46) = w2 at *
            have z3 := J4.out.b3.frozen
            obtain ⟨a0, a1, a2, a3, a4⟩ := VAt.of_blk JC.out
            obtain ⟨q0, q1, q2, q3, q4⟩ := VAt.of_blk J4.out.b3
            simp only [Nat.zero_add] at a0 a1 a2 a3 a4 q0 q1 q2 q3 q4
            go_wp2_with fail
            go_roundw
            case rel => exact ⟨i + 1, c', z, hlt, by go_num, HR.out, J4.out.put HR2.out⟩
            case measure => simp [intOf]; omega
        · have h5b : (u.k != 5) = true := by simp [h5]
          have HR : Hid (keyAt x l = some nullV) := by rw [Hid, HK.out, HD.out]; exact keyAt_none h6y (getV_kind s (by rw [← HUK.out]; exact h5))
          go_wp2_with fail
          have q := VAt.of_blk (J2.out.b1.putV nullC)
          refine bodyPost_ret (results_val_ok rfl _ _ _ rfl _ rfl _ nullC q) rfl ?_
          exact at_end J2.out nullC (some nullV) HR.out true rfl rfl rfl (fun y hy => by cases hy; exact rv_null)
    · obtain rfl : i = n := by omega
      have hdr : l.drop i = [] := List.drop_of_length_le (by have := HL.out; omega)
      by_cases h6 : u.k = 6
      · have HR : Hid (keyAt x l = none) := by rw [Hid, HK.out]; exact keyAt_list (by rw [← HUK.out]; exact h6) _
        have h6b : (u.k != 6) = false := by simp [h6]
        clear h6
        go_upto_region 15 with fail
        go_region
        all_goals (go_wp2_with fail)
        all_goals
          have q := VAt.of_blk (J2.out.b1.putV u).drew
          refine bodyPost_ret (results_val_ok rfl _ _ _ rfl _ rfl _ u q) rfl ?_
          exact (at_end J2.out u none HR.out false rfl rfl rfl (fun y hy => by cases hy)).drew
      · have HR : Hid (keyAt x l = some y) := by rw [Hid, HK.out, hdr]; exact keyAt_end (by rw [← HUK.out]; exact h6)
        have h6b : (u.k != 6) = true := by simp [h6]
        go_upto_region 15 with fail
        go_region
        all_goals (go_wp2_with fail)
        all_goals
          have q := VAt.of_blk (J2.out.b1.putV u).drew
          refine bodyPost_ret (results_val_ok rfl _ _ _ rfl _ rfl _ u q) rfl ?_
          exact (at_end J2.out u (some y) HR.out true rfl rfl rfl (fun z hz => by cases hz; exact J2.out.rvput)).drew

end Go.Proofs.YtlmmgjgkmbmgpaaGreatDoor


/- An operation of a region, by its place. -/
namespace Go.Proofs.YtlmmgjgkmbmgpaaGreatDoor
open Go.RowKit
theorem take_at {l rest : List Oper} {i : Nat} {o : Oper} (h : l.drop i = o :: rest) : l.toArray[i]? = some o := by
  have := congrArg List.head? h
  rw [List.head?_drop] at this
  simpa using this
end Go.Proofs.YtlmmgjgkmbmgpaaGreatDoor


/- The contract of the reference's KeyValue. Printed by gen_shkv.py. -/
namespace Go.Proofs.YtlmmgjgkmbmgpaaGreatDoor
open Go.RowKit

set_option maxHeartbeats 400000 in
theorem rnull_any (w : World) : Calls Tryz.prog 71 #[] w fun e w' => e = .returned nullC.val ∧ Below w.heap.size w w' := by
  go_enter Tryz.func71, Tryz.ntmps71
  go_wp2_with fail
  exact bodyPost_ret (results_val rfl _ _ _ rfl _ nullC (VAt.of_blk (Blk.new _ _ _))) rfl ⟨rfl, (Below.refl _ _).alloc (Nat.le_refl _) _⟩

/-- a slice without its first element -/
theorem ST.tail {w : World} {b off n c : Nat} {s : ByteArray} {r : List ByteArray} (h : ST w (some ⟨b, off, none⟩) n c (s :: r)) :
    ST w (if c = 1 then some ⟨b, off, none⟩ else some ⟨b, off + 1, none⟩) (n - 1) (c - 1) r := by
  have hl := h.sr.ln
  have hc := h.sr.lc
  simp only [List.length_cons] at hl
  have hz := h.sz
  refine ⟨⟨by omega, by omega, fun hn => ?_⟩, by omega, fun x hx => h.el x (by simp [hx])⟩
  obtain ⟨b', off', e, hb, hel⟩ := h.sr.el (by omega)
  cases e
  rw [if_neg (by omega)]
  refine ⟨b, off + 1, rfl, hb, fun i a hi j v hj => ?_⟩
  have := hel (i + 1) a (by simpa using hi) j v hj
  rw [show off + 1 + i * 1 + j = off + (i + 1) * 1 + j by omega]
  exact this

/-- what the reference's KeyValue hands back -/
def RAtOk (F : Nat → Prop) (x : Val) (l : List ByteArray) (w : World) (e : Ending) (w' : World) : Prop :=
  ∃ u : VC, e = .returned (.tuple #[u.val, .bool (keyAt x l).isSome]) ∧ (∀ y, keyAt x l = some y → RV F w' u y) ∧ Below w.heap.size w w'
theorem RAtOk.drew {F : Nat → Prop} {x : Val} {l : List ByteArray} {w : World} {e : Ending} {w' : World} (h : RAtOk F x l w e w') : RAtOk F x l w e w'.drew := by
  obtain ⟨u, h1, h2, h3⟩ := h
  exact ⟨u, h1, fun y hy => (h2 y hy).keep fun _ _ => rfl, h3.drew⟩
def RKvAt (l : List ByteArray) : Prop := ∀ (F : Nat → Prop) (x : Val) (c : VC) (A : Option Addr) (n cc : Nat) (w : World), (∀ b, F b → b < w.heap.size) → RV F w c x → ST w A n cc l →
    Calls Tryz.prog 124 #[c.val, .slice A n cc] w (RAtOk F x l w)
theorem rat_end {F : Nat → Prop} {w wr w' : World} {x : Val} {l : List ByteArray} {e : Ending} (c' : VC) (o : Option Val) (hbel : Below w.heap.size w wr) (ho : keyAt x l = o) (b : Bool) (hb : b = o.isSome) (he : e = .returned (.tuple #[c'.val, .bool b])) (hw : w' = setV wr (w.heap.size + 1) 0 c') (hr : ∀ z, o = some z → RV F (setV wr (w.heap.size + 1) 0 c') c' z) : RAtOk F x l w e w' := by
  subst ho
  subst hb
  subst he
  subst hw
  exact ⟨c', rfl, hr, below_setV hbel (by omega) 0 c'⟩

set_option maxRecDepth 100000 in
set_option maxHeartbeats 2000000 in
theorem rkv_any : ∀ l, RKvAt l := by
  intro l
  induction l with
  | nil =>
    intro F x c A n cc w hF h hp
    have hn : n = 0 := hp.sr.ln
    subst hn
    have hk : Hid (c.k = x.k) := h.open.k
    have BE : Hid (Below w.heap.size w ((w.alloc (Obj.cells c.arr 46)).alloc (Obj.cells VC.zero.arr 46))) := ((Below.refl _ _).alloc (Nat.le_refl _) _).alloc (by simp) _
    have B0 : Hid (Blk ((w.alloc (Obj.cells c.arr 46)).alloc (Obj.cells VC.zero.arr 46)) w.heap.size 46 c.arr) := (Blk.new_at rfl).alloc _
    have B1 : Hid (Blk ((w.alloc (Obj.cells c.arr 46)).alloc (Obj.cells VC.zero.arr 46)) (w.heap.size + 1) 46 VC.zero.arr) := Blk.new_at (by simp)
    go_enter Tryz.func124, Tryz.ntmps124
    go_upto_region 1 with fail
    change Code.wp _ _ _ _ ((w.alloc (Obj.cells c.arr 46)).alloc (Obj.cells VC.zero.arr 46))
    have hR := Lib.hid (h.lt.keepG (G := fun b => F b ∧ b < w.heap.size) (w' := ((w.alloc (Obj.cells c.arr 46)).alloc (Obj.cells VC.zero.arr 46))) fun b hb hl => ⟨hb, BE.out.block b hb.2⟩)
    generalize ((w.alloc (Obj.cells c.arr 46)).alloc (Obj.cells VC.zero.arr 46)) = wa at *
    obtain ⟨a0, a1, a2, a3, a4⟩ := VAt.of_blk B0.out
    obtain ⟨n0, n1, n2, n3, n4⟩ := VAt.of_blk B1.out
    simp only [Nat.zero_add] at a0 a1 a2 a3 a4 n0 n1 n2 n3 n4
    have z1 := B1.out.frozen
    by_cases h6 : c.k = 6
    · have HR : Hid (keyAt x [] = none) := keyAt_list (by rw [← hk.out]; exact h6) _
      have h6b : (c.k == 6) = true := by simpa using h6
      clear h6 hk h hp
      go_wp2_with fail
      have q := VAt.of_blk (B1.out.putV VC.zero)
      refine bodyPost_ret (results_val_ok rfl _ _ _ rfl _ rfl _ VC.zero q) rfl ?_
      exact rat_end VC.zero none BE.out HR.out false rfl rfl rfl (fun y hy => by cases hy)
    · have HR : Hid (keyAt x [] = some x) := keyAt_end (by rw [← hk.out]; exact h6)
      have h6b : (c.k == 6) = false := by simpa using h6
      clear h6 hk h hp
      go_wp2_with fail
      have q := VAt.of_blk (B1.out.putV c)
      refine bodyPost_ret (results_val_ok rfl _ _ _ rfl _ rfl _ c q) rfl ?_
      exact rat_end c (some x) BE.out HR.out true rfl rfl rfl (fun z hz => by cases hz; exact (hR.out.mono fun b hb => hb.1).keep fun b hb => heap_setV (by have := hF b hb; omega))
  | cons s r ih =>
    intro F x c A n cc w hF h hp
    have hk : Hid (c.k = x.k) := h.open.k
    have BE : Hid (Below w.heap.size w ((w.alloc (Obj.cells c.arr 46)).alloc (Obj.cells VC.zero.arr 46))) := ((Below.refl _ _).alloc (Nat.le_refl _) _).alloc (by simp) _
    have B0 : Hid (Blk ((w.alloc (Obj.cells c.arr 46)).alloc (Obj.cells VC.zero.arr 46)) w.heap.size 46 c.arr) := (Blk.new_at rfl).alloc _
    have B1 : Hid (Blk ((w.alloc (Obj.cells c.arr 46)).alloc (Obj.cells VC.zero.arr 46)) (w.heap.size + 1) 46 VC.zero.arr) := Blk.new_at (by simp)
    have hln := hp.sr.ln
    simp only [List.length_cons] at hln
    have hlc := hp.sr.lc
    have hnz : (n : Int) ≤ 8796093022208 := by have := hp.sz; unfold reach at this; omega
    obtain ⟨b, off, s', rfl, hbw, hs, hcell⟩ := hp.sr.at1 (i := 0) (by omega)
    obtain rfl : s = s' := by simpa using hs
    simp only [Nat.add_zero] at hcell
    have HT := Lib.hid hp.tail
    have HIH := Lib.hid ih
    have HFH := Lib.hid hF
    have cz : (cc : Int) ≠ 0 := by omega
    have HLN := Lib.hid hln
    have i1' : (0 : Int) < (n : Int) := by omega
    have i2' : 0 < n := by omega
    have i3' : (1 : Int) ≤ (n : Int) := by omega
    have n0b : ((n : Int) == 0) = false := by simp; omega
    clear hln
    go_enter Tryz.func124, Tryz.ntmps124
    go_upto_region 1 with fail
    change Code.wp _ _ _ _ ((w.alloc (Obj.cells c.arr 46)).alloc (Obj.cells VC.zero.arr 46))
    have HR0 := Lib.hid (h.keep (w' := ((w.alloc (Obj.cells c.arr 46)).alloc (Obj.cells VC.zero.arr 46))) fun b hb => BE.out.block b (hF b hb))
    have hsz : ((w.alloc (Obj.cells c.arr 46)).alloc (Obj.cells VC.zero.arr 46)).heap.size = w.heap.size + 2 := by simp
    generalize ((w.alloc (Obj.cells c.arr 46)).alloc (Obj.cells VC.zero.arr 46)) = wa at *
    obtain ⟨a0, a1, a2, a3, a4⟩ := VAt.of_blk B0.out
    obtain ⟨n0, n1, n2, n3, n4⟩ := VAt.of_blk B1.out
    simp only [Nat.zero_add] at a0 a1 a2 a3 a4 n0 n1 n2 n3 n4
    have z1 := B1.out.frozen
    by_cases h6 : c.k = 6
    · have HR : Hid (keyAt x (s :: r) = none) := keyAt_list (by rw [← hk.out]; exact h6) _
      have h6b : (c.k == 6) = true := by simpa using h6
      clear h6 hk h hp ih hF
      go_wp2_with fail
      have q := VAt.of_blk (B1.out.putV VC.zero)
      refine bodyPost_ret (results_val_ok rfl _ _ _ rfl _ rfl _ VC.zero q) rfl ?_
      exact rat_end VC.zero none BE.out HR.out false rfl rfl rfl (fun y hy => by cases hy)
    have h6y : Hid (x.k ≠ 6) := by unfold Hid; rw [← hk.out]; exact h6
    have h6b : (c.k == 6) = false := by simpa using h6
    clear h6 hk h hp ih hF hs
    go_upto_region 5 with fail
    have hcw := (BE.out.cell (p := ⟨b, off, none⟩) hbw).trans hcell
    have lb0 := B0.out.lt
    have lbb : b < wa.heap.size := Nat.lt_of_lt_of_le hbw BE.out.size
    have KC : Hid (∀ w' : World, (∀ g, g < wa.heap.size → w'.heap[g]? = wa.heap[g]?) → w'.cell? ⟨w.heap.size, 0, none⟩ = some (.int .i64 c.k) ∧ w'.cell? ⟨w.heap.size, 1, none⟩ = some (.int .i64 c.n) ∧ w'.cell? ⟨w.heap.size, 2, none⟩ = some (.string c.t) ∧ w'.cell? ⟨w.heap.size, 3, none⟩ = some (.slice c.LA c.ln c.lc) ∧ w'.cell? ⟨w.heap.size, 4, none⟩ = some (.slice c.DA c.dn c.dc) ∧ w'.cell? ⟨b, off, none⟩ = some (.string s)) := Lib.hid fun w' hk => by
      have p0 : ∀ o, w'.cell? ⟨w.heap.size, o, none⟩ = wa.cell? ⟨w.heap.size, o, none⟩ := fun o => World.cell?_of_block (w := wa) (a := ⟨w.heap.size, o, none⟩) (hk _ lb0)
      have p1 : ∀ o, w'.cell? ⟨b, o, none⟩ = wa.cell? ⟨b, o, none⟩ := fun o => World.cell?_of_block (w := wa) (a := ⟨b, o, none⟩) (hk _ lbb)
      exact ⟨(p0 _).trans a0, (p0 _).trans a1, (p0 _).trans a2, (p0 _).trans a3, (p0 _).trans a4, (p1 _).trans hcw⟩
    have HGV : Hid (∀ wq, Below wa.heap.size wa wq → Calls Tryz.prog 78 #[c.val, .string s] wq (RGetF F x s wq)) := Lib.hid fun wq hq => rget_fp x c s wq (HR0.out.keep fun b hb => hq.block b (by have := HFH.out b hb; omega))
    go_cut [6, 7] (fun v6 v7 wx => ∃ (g9 : Nat) (c9 : VC), v6 = .pointer (some ⟨g9, 0, none⟩) ∧ v7 = .bool (getV x s).isSome ∧ Blk wx g9 46 c9.arr ∧ RV F wx c9 ((getV x s).getD Val.zero) ∧ wa.heap.size ≤ g9 ∧ Below wa.heap.size wa wx)
    case first =>
      refine wp_region_noPanic ?_
      refine wp_region_held_drew (S := (fun w' => w'.cell? ⟨w.heap.size, 0, none⟩ = some (.int .i64 c.k) ∧ w'.cell? ⟨w.heap.size, 1, none⟩ = some (.int .i64 c.n) ∧ w'.cell? ⟨w.heap.size, 2, none⟩ = some (.string c.t) ∧ w'.cell? ⟨w.heap.size, 3, none⟩ = some (.slice c.LA c.ln c.lc) ∧ w'.cell? ⟨w.heap.size, 4, none⟩ = some (.slice c.DA c.dn c.dc) ∧ w'.cell? ⟨b, off, none⟩ = some (.string s))) (by kernel_rfl) ?_ (fun hHeld => ?_)
      · (try dsimp only); exact KC.out _ (fun g hg => rfl)
      have B : Hid (Below wa.heap.size wa wa.drew) := Lib.hid ((Below.refl wa.heap.size wa).drew)
      generalize wa.drew = W0 at *
      refine wpAnyH_take (i := 0) (v := ?_) (take_at rfl) (by kernel_rfl) (by kernel_rfl) (by kernel_rfl) (fun _ _ _ h => h) (Or.inl ⟨by rfl, ?_⟩) (by assumption) ?_
      rotate_left
      · intro w' hSw; (try dsimp only at hSw); go_simp; (try with_reducible rfl)
      (try simp only [Act.put, List.setIfInBounds_toArray, List.set_cons_zero, List.set_cons_succ])
      refine wpAnyH_take (i := 1) (v := ?_) (take_at rfl) (by kernel_rfl) (by kernel_rfl) (by kernel_rfl) (fun _ _ _ h => h) (Or.inl ⟨by rfl, ?_⟩) (by assumption) ?_
      rotate_left
      · intro w' hSw; (try dsimp only at hSw); go_simp; (try with_reducible rfl)
      (try simp only [Act.put, List.setIfInBounds_toArray, List.set_cons_zero, List.set_cons_succ])
      refine wpAnyH_take (i := 2) (v := ?_) (take_at rfl) (by kernel_rfl) (by kernel_rfl) (by kernel_rfl) (fun _ _ _ h => h) (Or.inl ⟨by rfl, ?_⟩) (by assumption) ?_
      rotate_left
      · intro w' hSw; (try dsimp only at hSw); go_simp; (try with_reducible rfl)
      (try simp only [Act.put, List.setIfInBounds_toArray, List.set_cons_zero, List.set_cons_succ])
      refine wpAnyH_take (i := 3) (v := ?_) (take_at rfl) (by kernel_rfl) (by kernel_rfl) (by kernel_rfl) (fun _ _ _ h => h) (Or.inl ⟨by rfl, ?_⟩) (by assumption) ?_
      rotate_left
      · intro w' hSw; (try dsimp only at hSw); go_simp; (try with_reducible rfl)
      (try simp only [Act.put, List.setIfInBounds_toArray, List.set_cons_zero, List.set_cons_succ])
      refine wpAnyH_ready (rs := [4, 8]) (by kernel_rfl) (by simp) ?_
      refine AllReadyH.cons (take_at rfl) (fun K hK => ?_) (AllReadyH.cons (take_at rfl) (fun K hK => ?_) AllReadyH.nil)
      · go_simp
        refine (HGV.out _ B.out).mono ?_
        rintro e W1 ⟨c9, rfl, hr, hb⟩
        have R9 := Lib.hid hr
        replace B := Lib.hid (B.out.step' hb)
        clear hb hr
        (try go_wp2_with fail)
        refine hK.out _ _ ?_ (fun hHeld2 => ?_)
        · (try dsimp only); exact KC.out _ (fun g hg => B.out.block g hg)
        clear hK K hHeld
        have hHeld := hHeld2
        clear hHeld2
        (try simp only [Act.put, List.setIfInBounds_toArray, List.set_cons_zero, List.set_cons_succ])
        refine wpAnyH_take (i := 5) (v := ?_) (take_at rfl) (by kernel_rfl) (by kernel_rfl) (by kernel_rfl) (fun _ _ _ h => h) (Or.inl ⟨by rfl, ?_⟩) (by assumption) ?_
        rotate_left
        · intro w' hSw; (try dsimp only at hSw); go_simp; (try with_reducible rfl)
        (try simp only [Act.put, List.setIfInBounds_toArray, List.set_cons_zero, List.set_cons_succ])
        refine wpAnyH_take (i := 6) (v := ?_) (take_at rfl) (by kernel_rfl) (by kernel_rfl) (by kernel_rfl) (fun _ _ _ h => h) (Or.inl ⟨by rfl, ?_⟩) (by assumption) ?_
        rotate_left
        · intro w' hSw; (try dsimp only at hSw); go_simp; (try with_reducible rfl)
        (try simp only [Act.put, List.setIfInBounds_toArray, List.set_cons_zero, List.set_cons_succ])
        refine wpAnyH_take (i := 7) (v := ?_) (take_at rfl) (by kernel_rfl) (by kernel_rfl) (by kernel_rfl) (fun _ _ _ h => h) (Or.inl ⟨by rfl, ?_⟩) (by assumption) ?_
        rotate_left
        · intro w' hSw; (try dsimp only at hSw); go_simp; (try with_reducible rfl)
        (try simp only [Act.put, List.setIfInBounds_toArray, List.set_cons_zero, List.set_cons_succ])
        refine wpAnyH_ready (rs := [8]) (by kernel_rfl) (by simp) ?_
        refine AllReadyH.cons (take_at rfl) (fun K hK => ?_) AllReadyH.nil
        go_simp
        have hg9 : wa.heap.size ≤ W1.heap.size := B.out.size
        have Q9 : Hid (Blk (W1.alloc (Obj.cells VC.zero.arr 46)) W1.heap.size 46 VC.zero.arr) := Blk.new_at rfl
        replace R9 := Lib.hid (R9.out.alloc (Obj.cells VC.zero.arr 46))
        replace B := Lib.hid (B.out.alloc B.out.size (Obj.cells VC.zero.arr 46))
        change K _ (W1.alloc (Obj.cells VC.zero.arr 46))
        generalize W1.alloc (Obj.cells VC.zero.arr 46) = W2 at *
        generalize W1.heap.size = g9 at *
        refine hK.out _ _ ?_ (fun hHeld2 => ?_)
        · (try dsimp only); exact KC.out _ (fun g hg => B.out.block g hg)
        clear hK K hHeld
        have hHeld := hHeld2
        clear hHeld2
        (try simp only [Act.put, List.setIfInBounds_toArray, List.set_cons_zero, List.set_cons_succ])
        refine wpAnyH_ready (rs := [9]) (by kernel_rfl) (by simp) ?_
        refine AllReadyH.cons (take_at rfl) (fun K hK => ?_) AllReadyH.nil
        obtain ⟨z0, z1, z2, z3, z4⟩ := VAt.of_blk Q9.out
        simp only [Nat.zero_add] at z0 z1 z2 z3 z4
        have zz := Q9.out.frozen
        have lq := Q9.out.lt
        go_simp
        have R9' := Lib.hid (R9.out.keep (w' := setV W2 g9 0 c9) fun b hb => heap_setV (by have := HFH.out b hb; omega))
        have Q9' := Lib.hid (Q9.out.putV c9)
        have B' := Lib.hid (below_setV B.out hg9 0 c9)
        clear z0 z1 z2 z3 z4 zz lq R9 Q9 B
        have R9 := R9'
        have Q9 := Q9'
        have B := B'
        clear R9' Q9' B'
        change K _ (setV W2 g9 0 c9)
        generalize setV W2 g9 0 c9 = W3 at *
        refine hK.out _ _ ?_ (fun hHeld2 => ?_)
        · (try dsimp only); exact KC.out _ (fun g hg => B.out.block g hg)
        clear hK K hHeld
        have hHeld := hHeld2
        clear hHeld2
        (try simp only [Act.put, List.setIfInBounds_toArray, List.set_cons_zero, List.set_cons_succ])
        refine wpAnyH_take (i := 10) (v := ?_) (take_at rfl) (by kernel_rfl) (by kernel_rfl) (by kernel_rfl) (fun _ _ _ h => h) (Or.inl ⟨by rfl, ?_⟩) (by assumption) ?_
        rotate_left
        · intro w' hSw; (try dsimp only at hSw); go_simp; (try with_reducible rfl)
        (try simp only [Act.put, List.setIfInBounds_toArray, List.set_cons_zero, List.set_cons_succ])
        refine wpAnyH_done (by kernel_rfl) ?_ _
        refine NoPanic.normal ?_
        go_wp2_with fail
        go_meet
        exact ⟨g9, c9, rfl, rfl, Q9.out, R9.out, by omega, B.out⟩
      · go_simp
        have hg9 : wa.heap.size ≤ W0.heap.size := B.out.size
        have Q9 : Hid (Blk (W0.alloc (Obj.cells VC.zero.arr 46)) W0.heap.size 46 VC.zero.arr) := Blk.new_at rfl
        replace B := Lib.hid (B.out.alloc B.out.size (Obj.cells VC.zero.arr 46))
        change K _ (W0.alloc (Obj.cells VC.zero.arr 46))
        generalize W0.alloc (Obj.cells VC.zero.arr 46) = W1 at *
        generalize W0.heap.size = g9 at *
        refine hK.out _ _ ?_ (fun hHeld2 => ?_)
        · (try dsimp only); exact KC.out _ (fun g hg => B.out.block g hg)
        clear hK K hHeld
        have hHeld := hHeld2
        clear hHeld2
        (try simp only [Act.put, List.setIfInBounds_toArray, List.set_cons_zero, List.set_cons_succ])
        refine wpAnyH_ready (rs := [4]) (by kernel_rfl) (by simp) ?_
        refine AllReadyH.cons (take_at rfl) (fun K hK => ?_) AllReadyH.nil
        go_simp
        refine (HGV.out _ B.out).mono ?_
        rintro e W2 ⟨c9, rfl, hr, hb⟩
        have R9 := Lib.hid hr
        replace Q9 := Lib.hid (Q9.out.step hb)
        replace B := Lib.hid (B.out.step' hb)
        clear hb hr
        (try go_wp2_with fail)
        refine hK.out _ _ ?_ (fun hHeld2 => ?_)
        · (try dsimp only); exact KC.out _ (fun g hg => B.out.block g hg)
        clear hK K hHeld
        have hHeld := hHeld2
        clear hHeld2
        (try simp only [Act.put, List.setIfInBounds_toArray, List.set_cons_zero, List.set_cons_succ])
        refine wpAnyH_take (i := 5) (v := ?_) (take_at rfl) (by kernel_rfl) (by kernel_rfl) (by kernel_rfl) (fun _ _ _ h => h) (Or.inl ⟨by rfl, ?_⟩) (by assumption) ?_
        rotate_left
        · intro w' hSw; (try dsimp only at hSw); go_simp; (try with_reducible rfl)
        (try simp only [Act.put, List.setIfInBounds_toArray, List.set_cons_zero, List.set_cons_succ])
        refine wpAnyH_take (i := 6) (v := ?_) (take_at rfl) (by kernel_rfl) (by kernel_rfl) (by kernel_rfl) (fun _ _ _ h => h) (Or.inl ⟨by rfl, ?_⟩) (by assumption) ?_
        rotate_left
        · intro w' hSw; (try dsimp only at hSw); go_simp; (try with_reducible rfl)
        (try simp only [Act.put, List.setIfInBounds_toArray, List.set_cons_zero, List.set_cons_succ])
        refine wpAnyH_take (i := 7) (v := ?_) (take_at rfl) (by kernel_rfl) (by kernel_rfl) (by kernel_rfl) (fun _ _ _ h => h) (Or.inl ⟨by rfl, ?_⟩) (by assumption) ?_
        rotate_left
        · intro w' hSw; (try dsimp only at hSw); go_simp; (try with_reducible rfl)
        (try simp only [Act.put, List.setIfInBounds_toArray, List.set_cons_zero, List.set_cons_succ])
        refine wpAnyH_ready (rs := [9]) (by kernel_rfl) (by simp) ?_
        refine AllReadyH.cons (take_at rfl) (fun K hK => ?_) AllReadyH.nil
        obtain ⟨z0, z1, z2, z3, z4⟩ := VAt.of_blk Q9.out
        simp only [Nat.zero_add] at z0 z1 z2 z3 z4
        have zz := Q9.out.frozen
        have lq := Q9.out.lt
        go_simp
        have R9' := Lib.hid (R9.out.keep (w' := setV W2 g9 0 c9) fun b hb => heap_setV (by have := HFH.out b hb; omega))
        have Q9' := Lib.hid (Q9.out.putV c9)
        have B' := Lib.hid (below_setV B.out hg9 0 c9)
        clear z0 z1 z2 z3 z4 zz lq R9 Q9 B
        have R9 := R9'
        have Q9 := Q9'
        have B := B'
        clear R9' Q9' B'
        change K _ (setV W2 g9 0 c9)
        generalize setV W2 g9 0 c9 = W3 at *
        refine hK.out _ _ ?_ (fun hHeld2 => ?_)
        · (try dsimp only); exact KC.out _ (fun g hg => B.out.block g hg)
        clear hK K hHeld
        have hHeld := hHeld2
        clear hHeld2
        (try simp only [Act.put, List.setIfInBounds_toArray, List.set_cons_zero, List.set_cons_succ])
        refine wpAnyH_take (i := 10) (v := ?_) (take_at rfl) (by kernel_rfl) (by kernel_rfl) (by kernel_rfl) (fun _ _ _ h => h) (Or.inl ⟨by rfl, ?_⟩) (by assumption) ?_
        rotate_left
        · intro w' hSw; (try dsimp only at hSw); go_simp; (try with_reducible rfl)
        (try simp only [Act.put, List.setIfInBounds_toArray, List.set_cons_zero, List.set_cons_succ])
        refine wpAnyH_done (by kernel_rfl) ?_ _
        refine NoPanic.normal ?_
        go_wp2_with fail
        go_meet
        exact ⟨g9, c9, rfl, rfl, Q9.out, R9.out, by omega, B.out⟩
    case rest =>
      obtain ⟨g9, c9, rfl, rfl, hg9, hr9, hl9, hb9⟩ := hcut
      have BE2 := Lib.hid (BE.out.step' hb9)
      have B12 := Lib.hid (B1.out.step hb9)
      have G9 := Lib.hid hg9
      have GR := Lib.hid hr9
      clear HGV KC a0 a1 a2 a3 a4 n0 n1 n2 n3 n4 hcw B0 B1 BE HR0
      generalize wc = w2 at *
      obtain ⟨n0, n1, n2, n3, n4⟩ := VAt.of_blk B12.out
      simp only [Nat.zero_add] at n0 n1 n2 n3 n4
      have z1 := B12.out.frozen
      cases hg : getV x s with
      | none =>
        rw [hg] at GR
        have HR : Hid (keyAt x (s :: r) = some nullV) := keyAt_none h6y.out hg
        clear hg hg9 hr9 hb9
        go_wp2_with fail
        refine (rnull_any _).mono ?_
        rintro e w3 ⟨rfl, hb3⟩
        have B13 := Lib.hid (B12.out.step hb3)
        have BE3 := Lib.hid (BE2.out.step' hb3)
        clear n0 n1 n2 n3 n4 z1 hb3
        obtain ⟨n0, n1, n2, n3, n4⟩ := VAt.of_blk B13.out
        simp only [Nat.zero_add] at n0 n1 n2 n3 n4
        have z1 := B13.out.frozen
        go_wp2_with fail
        have q := VAt.of_blk (B13.out.putV nullC)
        refine bodyPost_ret (results_val_ok rfl _ _ _ rfl _ rfl _ nullC q) rfl ?_
        exact rat_end nullC (some nullV) BE3.out HR.out true rfl rfl rfl (fun y hy => by cases hy; exact rv_null)
      | some y =>
        rw [hg] at GR
        have HR : Hid (keyAt x (s :: r) = keyAt y r) := keyAt_some h6y.out hg
        clear hg hg9 hr9 hb9
        go_upto_region 8 with fail
        obtain ⟨g0, g1, g2, g3, g4⟩ := VAt.of_blk G9.out
        simp only [Nat.zero_add] at g0 g1 g2 g3 g4
        have G9L := Lib.hid G9.out.lt
        have hl9' : Hid (g9 ≠ w.heap.size + 1) := by unfold Hid; omega
        have KC : Hid (∀ w' : World, w'.heap[g9]? = w2.heap[g9]? → w'.cell? ⟨g9, 0, none⟩ = some (.int .i64 c9.k) ∧ w'.cell? ⟨g9, 1, none⟩ = some (.int .i64 c9.n) ∧ w'.cell? ⟨g9, 2, none⟩ = some (.string c9.t) ∧ w'.cell? ⟨g9, 3, none⟩ = some (.slice c9.LA c9.ln c9.lc) ∧ w'.cell? ⟨g9, 4, none⟩ = some (.slice c9.DA c9.dn c9.dc)) := Lib.hid fun w' hk => by
          have p0 : ∀ o, w'.cell? ⟨g9, o, none⟩ = w2.cell? ⟨g9, o, none⟩ := fun o => World.cell?_of_block (w := w2) (a := ⟨g9, o, none⟩) hk
          exact ⟨(p0 _).trans g0, (p0 _).trans g1, (p0 _).trans g2, (p0 _).trans g3, (p0 _).trans g4⟩
        by_cases hc1 : cc = 1
        · subst hc1
          obtain rfl : n = 1 := by omega
          have HT2 := HT.out
          rw [if_pos rfl, Nat.sub_self] at HT2
          replace HT2 := Lib.hid HT2
          have HRK := Lib.hid fun (wq : World) (hq : Below w2.heap.size w2 wq) => HIH.out F y c9 _ _ _ wq (fun b hb => by have h1 := HFH.out b hb; have h2 := BE2.out.size; have h3 := hq.size; omega) (GR.out.step hq) ((HT2.out.step BE2.out).step hq)
          clear HT
          refine wp_region_noPanic ?_
          refine wp_region_held_drew (S := (fun w' => w'.cell? ⟨g9, 0, none⟩ = some (.int .i64 c9.k) ∧ w'.cell? ⟨g9, 1, none⟩ = some (.int .i64 c9.n) ∧ w'.cell? ⟨g9, 2, none⟩ = some (.string c9.t) ∧ w'.cell? ⟨g9, 3, none⟩ = some (.slice c9.LA c9.ln c9.lc) ∧ w'.cell? ⟨g9, 4, none⟩ = some (.slice c9.DA c9.dn c9.dc))) (by kernel_rfl) ?_ (fun hHeld => ?_)
          · (try dsimp only); exact KC.out _ rfl
          have B : Hid (Below w2.heap.size w2 w2.drew) := Lib.hid ((Below.refl w2.heap.size w2).drew)
          generalize w2.drew = W0 at *
          refine wpAnyH_take (i := 0) (v := ?_) (take_at rfl) (by kernel_rfl) (by kernel_rfl) (by kernel_rfl) (fun _ _ _ h => h) (Or.inl ⟨by rfl, ?_⟩) (by assumption) ?_
          rotate_left
          · intro w' hSw; (try dsimp only at hSw); go_simp; (try with_reducible rfl)
          (try simp only [Act.put, List.setIfInBounds_toArray, List.set_cons_zero, List.set_cons_succ])
          refine wpAnyH_take (i := 1) (v := ?_) (take_at rfl) (by kernel_rfl) (by kernel_rfl) (by kernel_rfl) (fun _ _ _ h => h) (Or.inl ⟨by rfl, ?_⟩) (by assumption) ?_
          rotate_left
          · intro w' hSw; (try dsimp only at hSw); go_simp; (try with_reducible rfl)
          (try simp only [Act.put, List.setIfInBounds_toArray, List.set_cons_zero, List.set_cons_succ])
          refine wpAnyH_take (i := 2) (v := ?_) (take_at rfl) (by kernel_rfl) (by kernel_rfl) (by kernel_rfl) (fun _ _ _ h => h) (Or.inl ⟨by rfl, ?_⟩) (by assumption) ?_
          rotate_left
          · intro w' hSw; (try dsimp only at hSw); go_simp; (try with_reducible rfl)
          (try simp only [Act.put, List.setIfInBounds_toArray, List.set_cons_zero, List.set_cons_succ])
          refine wpAnyH_ready (rs := [3]) (by kernel_rfl) (by simp) ?_
          refine AllReadyH.cons (take_at rfl) (fun K hK => ?_) AllReadyH.nil
          go_simp
          refine (HRK.out _ B.out).mono ?_
          rintro e W1 ⟨u9, rfl, hr, hb⟩
          have R9 := Lib.hid hr
          replace B := Lib.hid (B.out.step' hb)
          clear hb hr
          (try go_wp2_with fail)
          refine hK.out _ _ ?_ (fun hHeld2 => ?_)
          · (try dsimp only); exact KC.out _ (B.out.block _ G9L.out)
          clear hK K hHeld
          have hHeld := hHeld2
          clear hHeld2
          (try simp only [Act.put, List.setIfInBounds_toArray, List.set_cons_zero, List.set_cons_succ])
          refine wpAnyH_take (i := 4) (v := ?_) (take_at rfl) (by kernel_rfl) (by kernel_rfl) (by kernel_rfl) (fun _ _ _ h => h) (Or.inl ⟨by rfl, ?_⟩) (by assumption) ?_
          rotate_left
          · intro w' hSw; (try dsimp only at hSw); go_simp; (try with_reducible rfl)
          (try simp only [Act.put, List.setIfInBounds_toArray, List.set_cons_zero, List.set_cons_succ])
          refine wpAnyH_take (i := 5) (v := ?_) (take_at rfl) (by kernel_rfl) (by kernel_rfl) (by kernel_rfl) (fun _ _ _ h => h) (Or.inl ⟨by rfl, ?_⟩) (by assumption) ?_
          rotate_left
          · intro w' hSw; (try dsimp only at hSw); go_simp; (try with_reducible rfl)
          (try simp only [Act.put, List.setIfInBounds_toArray, List.set_cons_zero, List.set_cons_succ])
          refine wpAnyH_ready (rs := [6]) (by kernel_rfl) (by simp) ?_
          refine AllReadyH.cons (take_at rfl) (fun K hK => ?_) AllReadyH.nil
          have B14 := Lib.hid (B12.out.step B.out)
          have BE4 := Lib.hid (BE2.out.step' B.out)
          obtain ⟨z0, z1, z2, z3, z4⟩ := VAt.of_blk B14.out
          simp only [Nat.zero_add] at z0 z1 z2 z3 z4
          have zz := B14.out.frozen
          go_simp
          refine hK.out _ _ (KC.out _ ((heap_setV hl9'.out).trans (B.out.block _ G9L.out))) (fun hHeld2 => ?_)
          clear hHeld
          have hHeld := hHeld2
          clear hHeld2
          clear hK K z0 z1 z2 z3 z4 zz
          (try simp only [Act.put, List.setIfInBounds_toArray, List.set_cons_zero, List.set_cons_succ])
          refine wpAnyH_take (i := 7) (v := ?_) (take_at rfl) (by kernel_rfl) (by kernel_rfl) (by kernel_rfl) (fun _ _ _ h => h) (Or.inl ⟨by rfl, ?_⟩) (by assumption) ?_
          rotate_left
          · intro w' hSw; (try dsimp only at hSw); go_simp; (try with_reducible rfl)
          (try simp only [Act.put, List.setIfInBounds_toArray, List.set_cons_zero, List.set_cons_succ])
          refine wpAnyH_done (by kernel_rfl) ?_ _
          refine NoPanic.normal ?_
          go_wp2_with fail
          have q := VAt.of_blk (B14.out.putV u9)
          refine bodyPost_ret (results_val_ok rfl _ _ _ rfl _ rfl _ u9 q) rfl ?_
          exact rat_end u9 (keyAt y r) BE4.out HR.out _ rfl rfl rfl (fun z hz => (R9.out z hz).keep fun b hb => heap_setV (by have := HFH.out b hb; omega))
        · have HT2 := HT.out
          rw [if_neg hc1] at HT2
          replace HT2 := Lib.hid HT2
          have HRK := Lib.hid fun (wq : World) (hq : Below w2.heap.size w2 wq) => HIH.out F y c9 _ _ _ wq (fun b hb => by have h1 := HFH.out b hb; have h2 := BE2.out.size; have h3 := hq.size; omega) (GR.out.step hq) ((HT2.out.step BE2.out).step hq)
          clear HT
          refine wp_region_noPanic ?_
          refine wp_region_held_drew (S := (fun w' => w'.cell? ⟨g9, 0, none⟩ = some (.int .i64 c9.k) ∧ w'.cell? ⟨g9, 1, none⟩ = some (.int .i64 c9.n) ∧ w'.cell? ⟨g9, 2, none⟩ = some (.string c9.t) ∧ w'.cell? ⟨g9, 3, none⟩ = some (.slice c9.LA c9.ln c9.lc) ∧ w'.cell? ⟨g9, 4, none⟩ = some (.slice c9.DA c9.dn c9.dc))) (by kernel_rfl) ?_ (fun hHeld => ?_)
          · (try dsimp only); exact KC.out _ rfl
          have B : Hid (Below w2.heap.size w2 w2.drew) := Lib.hid ((Below.refl w2.heap.size w2).drew)
          generalize w2.drew = W0 at *
          refine wpAnyH_take (i := 0) (v := ?_) (take_at rfl) (by kernel_rfl) (by kernel_rfl) (by kernel_rfl) (fun _ _ _ h => h) (Or.inl ⟨by rfl, ?_⟩) (by assumption) ?_
          rotate_left
          · intro w' hSw; (try dsimp only at hSw); go_simp; (try with_reducible rfl)
          (try simp only [Act.put, List.setIfInBounds_toArray, List.set_cons_zero, List.set_cons_succ])
          refine wpAnyH_take (i := 1) (v := ?_) (take_at rfl) (by kernel_rfl) (by kernel_rfl) (by kernel_rfl) (fun _ _ _ h => h) (Or.inl ⟨by rfl, ?_⟩) (by assumption) ?_
          rotate_left
          · intro w' hSw; (try dsimp only at hSw); go_simp; (try with_reducible rfl)
          (try simp only [Act.put, List.setIfInBounds_toArray, List.set_cons_zero, List.set_cons_succ])
          refine wpAnyH_take (i := 2) (v := ?_) (take_at rfl) (by kernel_rfl) (by kernel_rfl) (by kernel_rfl) (fun _ _ _ h => h) (Or.inl ⟨by rfl, ?_⟩) (by assumption) ?_
          rotate_left
          · intro w' hSw; (try dsimp only at hSw); go_simp; (try with_reducible rfl)
          (try simp only [Act.put, List.setIfInBounds_toArray, List.set_cons_zero, List.set_cons_succ])
          refine wpAnyH_ready (rs := [3]) (by kernel_rfl) (by simp) ?_
          refine AllReadyH.cons (take_at rfl) (fun K hK => ?_) AllReadyH.nil
          go_simp
          refine (HRK.out _ B.out).mono ?_
          rintro e W1 ⟨u9, rfl, hr, hb⟩
          have R9 := Lib.hid hr
          replace B := Lib.hid (B.out.step' hb)
          clear hb hr
          (try go_wp2_with fail)
          refine hK.out _ _ ?_ (fun hHeld2 => ?_)
          · (try dsimp only); exact KC.out _ (B.out.block _ G9L.out)
          clear hK K hHeld
          have hHeld := hHeld2
          clear hHeld2
          (try simp only [Act.put, List.setIfInBounds_toArray, List.set_cons_zero, List.set_cons_succ])
          refine wpAnyH_take (i := 4) (v := ?_) (take_at rfl) (by kernel_rfl) (by kernel_rfl) (by kernel_rfl) (fun _ _ _ h => h) (Or.inl ⟨by rfl, ?_⟩) (by assumption) ?_
          rotate_left
          · intro w' hSw; (try dsimp only at hSw); go_simp; (try with_reducible rfl)
          (try simp only [Act.put, List.setIfInBounds_toArray, List.set_cons_zero, List.set_cons_succ])
          refine wpAnyH_take (i := 5) (v := ?_) (take_at rfl) (by kernel_rfl) (by kernel_rfl) (by kernel_rfl) (fun _ _ _ h => h) (Or.inl ⟨by rfl, ?_⟩) (by assumption) ?_
          rotate_left
          · intro w' hSw; (try dsimp only at hSw); go_simp; (try with_reducible rfl)
          (try simp only [Act.put, List.setIfInBounds_toArray, List.set_cons_zero, List.set_cons_succ])
          refine wpAnyH_ready (rs := [6]) (by kernel_rfl) (by simp) ?_
          refine AllReadyH.cons (take_at rfl) (fun K hK => ?_) AllReadyH.nil
          have B14 := Lib.hid (B12.out.step B.out)
          have BE4 := Lib.hid (BE2.out.step' B.out)
          obtain ⟨z0, z1, z2, z3, z4⟩ := VAt.of_blk B14.out
          simp only [Nat.zero_add] at z0 z1 z2 z3 z4
          have zz := B14.out.frozen
          go_simp
          refine hK.out _ _ (KC.out _ ((heap_setV hl9'.out).trans (B.out.block _ G9L.out))) (fun hHeld2 => ?_)
          clear hHeld
          have hHeld := hHeld2
          clear hHeld2
          clear hK K z0 z1 z2 z3 z4 zz
          (try simp only [Act.put, List.setIfInBounds_toArray, List.set_cons_zero, List.set_cons_succ])
          refine wpAnyH_take (i := 7) (v := ?_) (take_at rfl) (by kernel_rfl) (by kernel_rfl) (by kernel_rfl) (fun _ _ _ h => h) (Or.inl ⟨by rfl, ?_⟩) (by assumption) ?_
          rotate_left
          · intro w' hSw; (try dsimp only at hSw); go_simp; (try with_reducible rfl)
          (try simp only [Act.put, List.setIfInBounds_toArray, List.set_cons_zero, List.set_cons_succ])
          refine wpAnyH_done (by kernel_rfl) ?_ _
          refine NoPanic.normal ?_
          go_wp2_with fail
          have q := VAt.of_blk (B14.out.putV u9)
          refine bodyPost_ret (results_val_ok rfl _ _ _ rfl _ rfl _ u9 q) rfl ?_
          exact rat_end u9 (keyAt y r) BE4.out HR.out _ rfl rfl rfl (fun z hz => (R9.out z hz).keep fun b hb => heap_setV (by have := HFH.out b hb; omega))

end Go.Proofs.YtlmmgjgkmbmgpaaGreatDoor

