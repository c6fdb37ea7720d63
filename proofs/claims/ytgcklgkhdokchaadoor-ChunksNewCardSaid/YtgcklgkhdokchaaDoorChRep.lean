/- Chunks, orders and routes as plain data, and what it means that memory reads as them. -/
import Derived.Test.YtgcklgkhdokchaaDoorValRows
namespace Go.Proofs.YtgcklgkhdokchaaDoor
open Go.RowKit

/-- a chunk -/
structure Ch where
  lo : ByteArray
  hi : ByteArray
  sh : Int
  ver : Int
  ju : Bool
def recC (c : Ch) : List Value := [.string c.lo, .string c.hi, .int .i64 c.sh, .int .i64 c.ver, .bool c.ju]
abbrev aggC (c : Ch) : Value := .agg #[.string c.lo, .string c.hi, .int .i64 c.sh, .int .i64 c.ver, .bool c.ju]
def Ch.zero : Ch := ⟨ByteArray.empty, ByteArray.empty, 0, 0, false⟩
theorem recC_length (c : Ch) : (recC c).length = 5 := rfl
theorem recC_one (c : Ch) : ∀ u ∈ recC c, u.oneCell' = true := by
  intro u hu
  simp only [recC, List.mem_cons, List.not_mem_nil, or_false] at hu
  rcases hu with rfl | rfl | rfl | rfl | rfl <;> rfl
/-- the cells of a text -/
def recT (s : ByteArray) : List Value := [.string s]
theorem recT_length (s : ByteArray) : (recT s).length = 1 := rfl
theorem recT_one (s : ByteArray) : ∀ u ∈ recT s, u.oneCell' = true := by
  intro u hu
  simp only [recT, List.mem_cons, List.not_mem_nil, or_false] at hu
  subst hu
  rfl
/-- an order in memory -/
structure OC where
  A : Option Addr
  n : Nat
  c : Nat
  d : Bool
def recO (o : OC) : List Value := [.slice o.A o.n o.c, .bool o.d]
abbrev aggO (o : OC) : Value := .agg #[.slice o.A o.n o.c, .bool o.d]
def OC.zero : OC := ⟨none, 0, 0, false⟩
theorem recO_length (c : OC) : (recO c).length = 2 := rfl
theorem recO_one (c : OC) : ∀ u ∈ recO c, u.oneCell' = true := by
  intro u hu
  simp only [recO, List.mem_cons, List.not_mem_nil, or_false] at hu
  rcases hu with rfl | rfl <;> rfl
/-- an order -/
structure Od where
  p : List ByteArray
  d : Bool
/-- routes -/
structure Ro where
  sp : ByteArray
  ks : List Od
  ha : Bool
  ep : Int
  ver : Int
  cs : List Ch
def Ro.zero : Ro := ⟨ByteArray.empty, [], false, 0, 0, []⟩

/-- a slice of texts -/
structure ST (w : World) (A : Option Addr) (n c : Nat) (l : List ByteArray) : Prop where
  sr : SR 1 recT w A n c l
  sz : n * 16 ≤ reach
  el : ∀ s ∈ l, s.size ≤ reach
theorem ST.step {w w' : World} {A : Option Addr} {n c : Nat} {l : List ByteArray} (h : ST w A n c l) (hb : Below w.heap.size w w') : ST w' A n c l := ⟨h.sr.step hb, h.sz, h.el⟩
theorem ST.alloc {w : World} {A : Option Addr} {n c : Nat} {l : List ByteArray} (h : ST w A n c l) (o : Obj) : ST (w.alloc o) A n c l := h.step ((Below.refl _ _).alloc (Nat.le_refl _) o)
/-- an order reads -/
structure OR (w : World) (o : OC) (q : Od) : Prop where
  d : o.d = q.d
  st : ST w o.A o.n o.c q.p
theorem OR.step {w w' : World} {o : OC} {q : Od} (h : OR w o q) (hb : Below w.heap.size w w') : OR w' o q := ⟨h.d, h.st.step hb⟩
/-- a slice of orders -/
structure KO (w : World) (A : Option Addr) (n c : Nat) (os : List OC) (ks : List Od) : Prop where
  sr : SR 2 recO w A n c os
  sz : n * 32 ≤ reach
  ln : os.length = ks.length
  el : ∀ (i : Nat) (o : OC) (q : Od), os[i]? = some o → ks[i]? = some q → OR w o q
theorem KO.step {w w' : World} {A : Option Addr} {n c : Nat} {os : List OC} {ks : List Od} (h : KO w A n c os ks) (hb : Below w.heap.size w w') : KO w' A n c os ks := ⟨h.sr.step hb, h.sz, h.ln, fun i o q h1 h2 => (h.el i o q h1 h2).step hb⟩
def KS (w : World) (A : Option Addr) (n c : Nat) (ks : List Od) : Prop := ∃ os, KO w A n c os ks
theorem KS.step {w w' : World} {A : Option Addr} {n c : Nat} {ks : List Od} (h : KS w A n c ks) (hb : Below w.heap.size w w') : KS w' A n c ks := by obtain ⟨os, h⟩ := h; exact ⟨os, h.step hb⟩
theorem KS.nil {w : World} {A : Option Addr} {c : Nat} : KS w A 0 c [] := ⟨[], SR.nil, by show 0 * 32 ≤ reach; decide, rfl, fun i o q h => by simp at h⟩
theorem KS.ln {w : World} {A : Option Addr} {n c : Nat} {ks : List Od} (h : KS w A n c ks) : n = ks.length := by obtain ⟨os, h⟩ := h; rw [h.sr.ln, h.ln]
/-- a slice of chunks -/
structure CS (w : World) (A : Option Addr) (n c : Nat) (l : List Ch) : Prop where
  sr : SR 5 recC w A n c l
  sz : n * 56 ≤ reach
theorem CS.step {w w' : World} {A : Option Addr} {n c : Nat} {l : List Ch} (h : CS w A n c l) (hb : Below w.heap.size w w') : CS w' A n c l := ⟨h.sr.step hb, h.sz⟩
theorem CS.nil {w : World} {A : Option Addr} {c : Nat} : CS w A 0 c [] := ⟨SR.nil, by show 0 * 56 ≤ reach; decide⟩
theorem CS.ln {w : World} {A : Option Addr} {n c : Nat} {l : List Ch} (h : CS w A n c l) : n = l.length := h.sr.ln

/-- where the slices of routes lie -/
structure RA where
  KA : Option Addr
  kn : Nat
  kc : Nat
  CA : Option Addr
  cn : Nat
  cc : Nat
def RA.zero : RA := ⟨none, 0, 0, none, 0, 0⟩
abbrev rarr (a : RA) (R : Ro) : Array Value := #[.string R.sp, .slice a.KA a.kn a.kc, .bool R.ha, .int .i64 R.ep, .int .i64 R.ver, .slice a.CA a.cn a.cc]
abbrev rval (a : RA) (R : Ro) : Value := .agg (rarr a R)
structure RR (w : World) (a : RA) (R : Ro) : Prop where
  sp : R.sp.size ≤ reach
  ks : KS w a.KA a.kn a.kc R.ks
  cs : CS w a.CA a.cn a.cc R.cs
theorem RR.step {w w' : World} {a : RA} {R : Ro} (h : RR w a R) (hb : Below w.heap.size w w') : RR w' a R := ⟨h.sp, h.ks.step hb, h.cs.step hb⟩
theorem RR.alloc {w : World} {a : RA} {R : Ro} (h : RR w a R) (o : Obj) : RR (w.alloc o) a R := h.step ((Below.refl _ _).alloc (Nat.le_refl _) o)
theorem RR.zero {w : World} : RR w RA.zero Ro.zero := ⟨by show 0 ≤ reach; decide, KS.nil, CS.nil⟩

/-- a record lies at an address -/
theorem SR.at5 {w : World} {A : Option Addr} {n c : Nat} {l : List Ch} (h : SR 5 recC w A n c l) {i : Nat} (hi : i < n) : ∃ b off x, A = some ⟨b, off, none⟩ ∧ b < w.heap.size ∧ l[i]? = some x ∧
    w.cell? ⟨b, off + i * 5, none⟩ = some (.string x.lo) ∧ w.cell? ⟨b, off + i * 5 + 1, none⟩ = some (.string x.hi) ∧ w.cell? ⟨b, off + i * 5 + 2, none⟩ = some (.int .i64 x.sh) ∧ w.cell? ⟨b, off + i * 5 + 3, none⟩ = some (.int .i64 x.ver) ∧ w.cell? ⟨b, off + i * 5 + 4, none⟩ = some (.bool x.ju) := by
  obtain ⟨b, off, e, hb, hc⟩ := h.el (by omega)
  have hl : i < l.length := by have := h.ln; omega
  have h1 := List.getElem?_eq_getElem hl
  exact ⟨b, off, l[i], e, hb, h1, hc i _ h1 0 _ rfl, hc i _ h1 1 _ rfl, hc i _ h1 2 _ rfl, hc i _ h1 3 _ rfl, hc i _ h1 4 _ rfl⟩
theorem SR.at2 {w : World} {A : Option Addr} {n c : Nat} {l : List OC} (h : SR 2 recO w A n c l) {i : Nat} (hi : i < n) : ∃ b off x, A = some ⟨b, off, none⟩ ∧ b < w.heap.size ∧ l[i]? = some x ∧
    w.cell? ⟨b, off + i * 2, none⟩ = some (.slice x.A x.n x.c) ∧ w.cell? ⟨b, off + i * 2 + 1, none⟩ = some (.bool x.d) := by
  obtain ⟨b, off, e, hb, hc⟩ := h.el (by omega)
  have hl : i < l.length := by have := h.ln; omega
  have h1 := List.getElem?_eq_getElem hl
  exact ⟨b, off, l[i], e, hb, h1, hc i _ h1 0 _ rfl, hc i _ h1 1 _ rfl⟩
theorem SR.at1 {w : World} {A : Option Addr} {n c : Nat} {l : List ByteArray} (h : SR 1 recT w A n c l) {i : Nat} (hi : i < n) : ∃ b off x, A = some ⟨b, off, none⟩ ∧ b < w.heap.size ∧ l[i]? = some x ∧
    w.cell? ⟨b, off + i, none⟩ = some (.string x) := by
  obtain ⟨b, off, e, hb, hc⟩ := h.el (by omega)
  have hl : i < l.length := by have := h.ln; omega
  have h1 := List.getElem?_eq_getElem hl
  exact ⟨b, off, l[i], e, hb, h1, by simpa using hc i _ h1 0 _ rfl⟩

theorem info_chunk : (Tryd.prog.info? 45).map (fun i => (i.zero, i.size, i.bytes)) = some (some (aggC Ch.zero), 5, 56) := by kernel_rfl
theorem info_order : (Tryd.prog.info? 53).map (fun i => (i.zero, i.size, i.bytes)) = some (some (aggO OC.zero), 2, 32) := by kernel_rfl
theorem info_string : (Tryd.prog.info? 9).map (fun i => (i.zero, i.size, i.bytes)) = some (some (.string ByteArray.empty), 1, 16) := by kernel_rfl

/-- what a slice of records reads as -/
theorem SR.reads {α : Type} {rec : α → List Value} {s : Nat} (hs : ∀ a, (rec a).length = s) (hp : 0 < s) {w : World} {A : Option Addr} {n c : Nat} {xs : List α} (h : SR s rec w A n c xs) : Reads w w.heap.size s A n (flat rec xs) := by
  refine ⟨by rw [flat_length hs, h.ln], fun hn => ?_⟩
  obtain ⟨b, off, e, hb, hel⟩ := h.el hn
  subst e
  refine ⟨_, rfl, hb, fun j u hu => ?_⟩
  have hj := (List.getElem?_eq_some_iff.1 hu).1
  rw [flat_length hs] at hj
  obtain ⟨a, v, g1, g2, g3⟩ := flat_at' hs hp xs j hj
  have := hel (j / s) a g1 (j % s) v g2
  rw [addr_add]
  rw [g3] at hu
  cases hu
  have hdm := Nat.div_add_mod j s
  rw [Nat.mul_comm] at hdm
  rw [show off + j = off + j / s * s + j % s by omega]
  exact this
theorem flat_one {α : Type} {rec : α → List Value} (h1 : ∀ a, ∀ u ∈ rec a, u.oneCell' = true) (xs : List α) : ∀ u ∈ flat rec xs, u.oneCell' = true := by
  intro u hu
  obtain ⟨p, _, hp⟩ := List.mem_flatMap.1 hu
  exact h1 p u hp

end Go.Proofs.YtgcklgkhdokchaaDoor
