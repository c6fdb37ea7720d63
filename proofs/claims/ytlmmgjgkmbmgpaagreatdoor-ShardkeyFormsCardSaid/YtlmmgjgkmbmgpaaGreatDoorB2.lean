/- Parts of the proof, joined: ValName, ChRepA. -/
import Derived.Test.YtlmmgjgkmbmgpaaGreatDoorB1
/- Names: value.isName, and the reference's Name and wide. (Printed by gen_name.py.) -/
namespace Go.Proofs.YtlmmgjgkmbmgpaaGreatDoor
open Go.RowKit

def okB (b : UInt8) : Bool := decide (33 ≤ b.toNat) && decide (b.toNat ≤ 126) && !(b.toNat == 46)
def okW (b : UInt8) : Bool := decide (32 ≤ b.toNat) && decide (b.toNat ≤ 126)
/-- a name -/
def nameB (s : ByteArray) : Bool := decide (1 ≤ s.size) && decide (s.size ≤ 32) && !(s.data.toList.head?.map UInt8.toNat == some 36) && s.data.toList.all okB
/-- a name of a well-formed value -/
def wideB (s : ByteArray) : Bool := decide (1 ≤ s.size) && decide (s.size ≤ 128) && s.data.toList.all okW
theorem bytes_at (s : ByteArray) (i : Nat) (h : i < s.size) : s.data.toList[i]? = some s[i] := by
  rw [List.getElem?_eq_getElem (by simpa using h)]
  rfl
theorem all_next {p : UInt8 → Bool} {s : ByteArray} {i : Nat} (h : i < s.size) (ha : (s.data.toList.take i).all p = true) (hp : p s[i] = true) : (s.data.toList.take (i + 1)).all p = true := by
  rw [take_snoc' (bytes_at s i h), List.all_append, ha]
  simp [hp]
theorem all_not {p : UInt8 → Bool} {s : ByteArray} {i : Nat} (h : i < s.size) (hp : p s[i] = false) : s.data.toList.all p = false := by
  rw [List.all_eq_false]
  exact ⟨s[i], List.mem_of_getElem? (bytes_at s i h), by simp [hp]⟩
theorem all_end {p : UInt8 → Bool} {s : ByteArray} {i : Nat} (h : s.size ≤ i) (ha : (s.data.toList.take i).all p = true) : s.data.toList.all p = true := by
  rwa [List.take_of_length_le (by simpa using h)] at ha
theorem head_of (s : ByteArray) (h : 0 < s.size) : s.data.toList.head?.map UInt8.toNat = some s[0].toNat := by
  rw [List.head?_eq_getElem?, bytes_at s 0 h]
  rfl
theorem all_zero {p : UInt8 → Bool} {l : List UInt8} : (l.take 0).all p = true := by simp

set_option maxHeartbeats 1000000 in
theorem isName_any (s : ByteArray) (w : World) : Calls Tryz.prog 200 #[.string s] w fun e w' => e = .returned (.bool (nameB s)) ∧ w' = w := by
  by_cases h1 : s.size < 1
  · have HV : Hid (nameB s = false) := by unfold Hid nameB; rw [decide_eq_false (by omega)]; rfl
    go_enter Tryz.func200, Tryz.ntmps200
    go_wp2_with fail
    go_ret
    exact ⟨by rw [HV.out]; rfl, rfl⟩
  by_cases h2 : 32 < s.size
  · have HV : Hid (nameB s = false) := by unfold Hid nameB; rw [decide_eq_true (by omega), decide_eq_false (by omega)]; rfl
    go_enter Tryz.func200, Tryz.ntmps200
    go_wp2_with fail
    go_ret
    exact ⟨by rw [HV.out]; rfl, rfl⟩
  cases h3 : ((s[0].toNat : Int) == 36)
  rotate_left
  · have HV : Hid (nameB s = false) := by
      have : s[0].toNat = 36 := by simp at h3; omega
      unfold Hid nameB
      rw [decide_eq_true (by omega), decide_eq_true (by omega), head_of s (by omega), this]
      rfl
    go_enter Tryz.func200, Tryz.ntmps200
    go_wp2_with fail
    go_ret
    exact ⟨by rw [HV.out]; rfl, rfl⟩
  have HA : Hid (nameB s = s.data.toList.all okB) := by
    have : ¬ s[0].toNat = 36 := by simp at h3; omega
    unfold Hid nameB
    rw [decide_eq_true (by omega), decide_eq_true (by omega), head_of s (by omega)]
    simp [this]
  go_enter Tryz.func200, Tryz.ntmps200
  go_wp2_with fail
  go_loopw [19] (fun v wr => ∃ i : Nat, i ≤ s.size ∧ v = .int .i64 i ∧ (s.data.toList.take i).all okB = true ∧ wr = w) (fun v _ => s.size - (intOf v).toNat)
  case atStart => exact ⟨0, Nat.zero_le _, rfl, all_zero, rfl⟩
  case round =>
    obtain ⟨i, hi, rfl, ha, rfl⟩ := hrel
    have HL := Lib.hid ha
    clear ha
    by_cases hlt : i < s.size
    · have hx := s[i].toNat_lt
      by_cases hb : (s[i].toNat : Int) < 33
      · have HV : Hid (nameB s = false) := by rw [Hid, HA.out]; exact all_not hlt (by unfold okB; rw [decide_eq_false (by omega)]; rfl)
        go_wp2_with fail
        go_ret
        exact ⟨by rw [HV.out]; rfl, rfl⟩
      by_cases hc : 126 < (s[i].toNat : Int)
      · have HV : Hid (nameB s = false) := by rw [Hid, HA.out]; exact all_not hlt (by unfold okB; rw [decide_eq_true (by omega), decide_eq_false (by omega)]; rfl)
        go_wp2_with fail
        go_ret
        exact ⟨by rw [HV.out]; rfl, rfl⟩
      cases hd : ((s[i].toNat : Int) == 46)
      rotate_left
      · have HV : Hid (nameB s = false) := by
          have : s[i].toNat = 46 := by simp at hd; omega
          rw [Hid, HA.out]
          exact all_not hlt (by unfold okB; rw [this]; rfl)
        go_wp2_with fail
        go_ret
        exact ⟨by rw [HV.out]; rfl, rfl⟩
      have HN : Hid ((s.data.toList.take (i + 1)).all okB = true) := by
        have : ¬ s[i].toNat = 46 := by simp at hd; omega
        exact all_next hlt HL.out (by unfold okB; rw [decide_eq_true (by omega), decide_eq_true (by omega)]; simp [this])
      go_wp2_with fail
      go_roundw
      case rel => exact ⟨i + 1, by omega, by go_num, HN.out, trivial⟩
      case measure => simp [intOf]; omega
    · have HV : Hid (nameB s = true) := by rw [Hid, HA.out]; exact all_end (by omega) HL.out
      go_wp2_with fail
      go_ret
      exact ⟨by rw [HV.out]; rfl, rfl⟩

set_option maxHeartbeats 1000000 in
theorem rname_any (s : ByteArray) (w : World) : Calls Tryz.prog 33 #[.string s] w fun e w' => e = .returned (.bool (nameB s)) ∧ w' = w := by
  by_cases h1 : s.size < 1
  · have HV : Hid (nameB s = false) := by unfold Hid nameB; rw [decide_eq_false (by omega)]; rfl
    go_enter Tryz.func33, Tryz.ntmps33
    go_wp2_with fail
    go_ret
    exact ⟨by rw [HV.out]; rfl, rfl⟩
  by_cases h2 : 32 < s.size
  · have HV : Hid (nameB s = false) := by unfold Hid nameB; rw [decide_eq_true (by omega), decide_eq_false (by omega)]; rfl
    go_enter Tryz.func33, Tryz.ntmps33
    go_wp2_with fail
    go_ret
    exact ⟨by rw [HV.out]; rfl, rfl⟩
  cases h3 : ((s[0].toNat : Int) == 36)
  rotate_left
  · have HV : Hid (nameB s = false) := by
      have : s[0].toNat = 36 := by simp at h3; omega
      unfold Hid nameB
      rw [decide_eq_true (by omega), decide_eq_true (by omega), head_of s (by omega), this]
      rfl
    go_enter Tryz.func33, Tryz.ntmps33
    go_wp2_with fail
    go_ret
    exact ⟨by rw [HV.out]; rfl, rfl⟩
  have HA : Hid (nameB s = s.data.toList.all okB) := by
    have : ¬ s[0].toNat = 36 := by simp at h3; omega
    unfold Hid nameB
    rw [decide_eq_true (by omega), decide_eq_true (by omega), head_of s (by omega)]
    simp [this]
  go_enter Tryz.func33, Tryz.ntmps33
  go_wp2_with fail
  go_loopw [3] (fun v wr => ∃ i : Nat, i ≤ s.size ∧ v = .int .i64 i ∧ (s.data.toList.take i).all okB = true ∧ wr = w) (fun v _ => s.size - (intOf v).toNat)
  case atStart => exact ⟨0, Nat.zero_le _, rfl, all_zero, rfl⟩
  case round =>
    obtain ⟨i, hi, rfl, ha, rfl⟩ := hrel
    have HL := Lib.hid ha
    clear ha
    by_cases hlt : i < s.size
    · have hx := s[i].toNat_lt
      by_cases hb : (s[i].toNat : Int) < 33
      · have HV : Hid (nameB s = false) := by rw [Hid, HA.out]; exact all_not hlt (by unfold okB; rw [decide_eq_false (by omega)]; rfl)
        go_wp2_with fail
        go_ret
        exact ⟨by rw [HV.out]; rfl, rfl⟩
      by_cases hc : 126 < (s[i].toNat : Int)
      · have HV : Hid (nameB s = false) := by rw [Hid, HA.out]; exact all_not hlt (by unfold okB; rw [decide_eq_true (by omega), decide_eq_false (by omega)]; rfl)
        go_wp2_with fail
        go_ret
        exact ⟨by rw [HV.out]; rfl, rfl⟩
      cases hd : ((s[i].toNat : Int) == 46)
      rotate_left
      · have HV : Hid (nameB s = false) := by
          have : s[i].toNat = 46 := by simp at hd; omega
          rw [Hid, HA.out]
          exact all_not hlt (by unfold okB; rw [this]; rfl)
        go_wp2_with fail
        go_ret
        exact ⟨by rw [HV.out]; rfl, rfl⟩
      have HN : Hid ((s.data.toList.take (i + 1)).all okB = true) := by
        have : ¬ s[i].toNat = 46 := by simp at hd; omega
        exact all_next hlt HL.out (by unfold okB; rw [decide_eq_true (by omega), decide_eq_true (by omega)]; simp [this])
      go_wp2_with fail
      go_roundw
      case rel => exact ⟨i + 1, by omega, by go_num, HN.out, trivial⟩
      case measure => simp [intOf]; omega
    · have HV : Hid (nameB s = true) := by rw [Hid, HA.out]; exact all_end (by omega) HL.out
      go_wp2_with fail
      go_ret
      exact ⟨by rw [HV.out]; rfl, rfl⟩

end Go.Proofs.YtlmmgjgkmbmgpaaGreatDoor

/- Chunks, orders and routes as plain data, and what it means that memory reads as them. · Chunks: the plain law. What the functions of the program compute. · Paths: the contracts of path.notName, slices.ContainsFunc and path.Valid. -/
namespace Go.Proofs.YtlmmgjgkmbmgpaaGreatDoor
open Go.RowKit

/-- a chunk -/
structure Ch where
  lo : ByteArray
  hi : ByteArray
  sh : Int
  ver : Int
  ju : Bool
def recC (c : Ch) : List Value := [.string c.lo, .string c.hi, .int .i64 c.sh, .int .i64 c.ver, .bool c.ju]
abbrev aggC (c : Ch) : Value := .agg #[.string c.lo, .string c.hi, .int .i64 c.sh, .int .i64 c.ver, .bool c.ju]
def Ch.zero : Ch := ⟨ByteArray.empty, ByteArray.empty, 0, 0, false⟩
theorem recC_length (c : Ch) : (recC c).length = 5 := rfl
theorem recC_one (c : Ch) : ∀ u ∈ recC c, u.oneCell' = true := by
  intro u hu
  simp only [recC, List.mem_cons, List.not_mem_nil, or_false] at hu
  rcases hu with rfl | rfl | rfl | rfl | rfl <;> rfl
/-- the cells of a text -/
def recT (s : ByteArray) : List Value := [.string s]
theorem recT_length (s : ByteArray) : (recT s).length = 1 := rfl
theorem recT_one (s : ByteArray) : ∀ u ∈ recT s, u.oneCell' = true := by
  intro u hu
  simp only [recT, List.mem_cons, List.not_mem_nil, or_false] at hu
  subst hu
  rfl
/-- an order in memory -/
structure OC where
  A : Option Addr
  n : Nat
  c : Nat
  d : Bool
def recO (o : OC) : List Value := [.slice o.A o.n o.c, .bool o.d]
abbrev aggO (o : OC) : Value := .agg #[.slice o.A o.n o.c, .bool o.d]
def OC.zero : OC := ⟨none, 0, 0, false⟩
theorem recO_length (c : OC) : (recO c).length = 2 := rfl
theorem recO_one (c : OC) : ∀ u ∈ recO c, u.oneCell' = true := by
  intro u hu
  simp only [recO, List.mem_cons, List.not_mem_nil, or_false] at hu
  rcases hu with rfl | rfl <;> rfl
/-- an order -/
structure Od where
  p : List ByteArray
  d : Bool
/-- routes -/
structure Ro where
  sp : ByteArray
  ks : List Od
  ha : Bool
  ep : Int
  ver : Int
  cs : List Ch
def Ro.zero : Ro := ⟨ByteArray.empty, [], false, 0, 0, []⟩

/-- a slice of texts -/
structure ST (w : World) (A : Option Addr) (n c : Nat) (l : List ByteArray) : Prop where
  sr : SR 1 recT w A n c l
  sz : n * 16 ≤ reach
  el : ∀ s ∈ l, s.size ≤ reach
theorem ST.step {w w' : World} {A : Option Addr} {n c : Nat} {l : List ByteArray} (h : ST w A n c l) (hb : Below w.heap.size w w') : ST w' A n c l := ⟨h.sr.step hb, h.sz, h.el⟩
theorem ST.alloc {w : World} {A : Option Addr} {n c : Nat} {l : List ByteArray} (h : ST w A n c l) (o : Obj) : ST (w.alloc o) A n c l := h.step ((Below.refl _ _).alloc (Nat.le_refl _) o)
/-- an order reads -/
structure OR (w : World) (o : OC) (q : Od) : Prop where
  d : o.d = q.d
  st : ST w o.A o.n o.c q.p
theorem OR.step {w w' : World} {o : OC} {q : Od} (h : OR w o q) (hb : Below w.heap.size w w') : OR w' o q := ⟨h.d, h.st.step hb⟩
/-- a slice of orders -/
structure KO (w : World) (A : Option Addr) (n c : Nat) (os : List OC) (ks : List Od) : Prop where
  sr : SR 2 recO w A n c os
  sz : n * 32 ≤ reach
  ln : os.length = ks.length
  el : ∀ (i : Nat) (o : OC) (q : Od), os[i]? = some o → ks[i]? = some q → OR w o q
theorem KO.step {w w' : World} {A : Option Addr} {n c : Nat} {os : List OC} {ks : List Od} (h : KO w A n c os ks) (hb : Below w.heap.size w w') : KO w' A n c os ks := ⟨h.sr.step hb, h.sz, h.ln, fun i o q h1 h2 => (h.el i o q h1 h2).step hb⟩
def KS (w : World) (A : Option Addr) (n c : Nat) (ks : List Od) : Prop := ∃ os, KO w A n c os ks
theorem KS.step {w w' : World} {A : Option Addr} {n c : Nat} {ks : List Od} (h : KS w A n c ks) (hb : Below w.heap.size w w') : KS w' A n c ks := by obtain ⟨os, h⟩ := h; exact ⟨os, h.step hb⟩
theorem KS.nil {w : World} {A : Option Addr} {c : Nat} : KS w A 0 c [] := ⟨[], SR.nil, by show 0 * 32 ≤ reach; decide, rfl, fun i o q h => by simp at h⟩
theorem KS.ln {w : World} {A : Option Addr} {n c : Nat} {ks : List Od} (h : KS w A n c ks) : n = ks.length := by obtain ⟨os, h⟩ := h; rw [h.sr.ln, h.ln]
/-- a slice of chunks -/
structure CS (w : World) (A : Option Addr) (n c : Nat) (l : List Ch) : Prop where
  sr : SR 5 recC w A n c l
  sz : n * 56 ≤ reach
theorem CS.step {w w' : World} {A : Option Addr} {n c : Nat} {l : List Ch} (h : CS w A n c l) (hb : Below w.heap.size w w') : CS w' A n c l := ⟨h.sr.step hb, h.sz⟩
theorem CS.nil {w : World} {A : Option Addr} {c : Nat} : CS w A 0 c [] := ⟨SR.nil, by show 0 * 56 ≤ reach; decide⟩
theorem CS.ln {w : World} {A : Option Addr} {n c : Nat} {l : List Ch} (h : CS w A n c l) : n = l.length := h.sr.ln

/-- where the slices of routes lie -/
structure RA where
  KA : Option Addr
  kn : Nat
  kc : Nat
  CA : Option Addr
  cn : Nat
  cc : Nat
def RA.zero : RA := ⟨none, 0, 0, none, 0, 0⟩
abbrev rarr (a : RA) (R : Ro) : Array Value := #[.string R.sp, .slice a.KA a.kn a.kc, .bool R.ha, .int .i64 R.ep, .int .i64 R.ver, .slice a.CA a.cn a.cc]
abbrev rval (a : RA) (R : Ro) : Value := .agg (rarr a R)
structure RR (w : World) (a : RA) (R : Ro) : Prop where
  sp : R.sp.size ≤ reach
  ks : KS w a.KA a.kn a.kc R.ks
  cs : CS w a.CA a.cn a.cc R.cs
theorem RR.step {w w' : World} {a : RA} {R : Ro} (h : RR w a R) (hb : Below w.heap.size w w') : RR w' a R := ⟨h.sp, h.ks.step hb, h.cs.step hb⟩
theorem RR.alloc {w : World} {a : RA} {R : Ro} (h : RR w a R) (o : Obj) : RR (w.alloc o) a R := h.step ((Below.refl _ _).alloc (Nat.le_refl _) o)
theorem RR.zero {w : World} : RR w RA.zero Ro.zero := ⟨by show 0 ≤ reach; decide, KS.nil, CS.nil⟩

/-- a record lies at an address -/
theorem SR.at5 {w : World} {A : Option Addr} {n c : Nat} {l : List Ch} (h : SR 5 recC w A n c l) {i : Nat} (hi : i < n) : ∃ b off x, A = some ⟨b, off, none⟩ ∧ b < w.heap.size ∧ l[i]? = some x ∧
    w.cell? ⟨b, off + i * 5, none⟩ = some (.string x.lo) ∧ w.cell? ⟨b, off + i * 5 + 1, none⟩ = some (.string x.hi) ∧ w.cell? ⟨b, off + i * 5 + 2, none⟩ = some (.int .i64 x.sh) ∧ w.cell? ⟨b, off + i * 5 + 3, none⟩ = some (.int .i64 x.ver) ∧ w.cell? ⟨b, off + i * 5 + 4, none⟩ = some (.bool x.ju) := by
  obtain ⟨b, off, e, hb, hc⟩ := h.el (by omega)
  have hl : i < l.length := by have := h.ln; omega
  have h1 := List.getElem?_eq_getElem hl
  exact ⟨b, off, l[i], e, hb, h1, hc i _ h1 0 _ rfl, hc i _ h1 1 _ rfl, hc i _ h1 2 _ rfl, hc i _ h1 3 _ rfl, hc i _ h1 4 _ rfl⟩
theorem SR.at2 {w : World} {A : Option Addr} {n c : Nat} {l : List OC} (h : SR 2 recO w A n c l) {i : Nat} (hi : i < n) : ∃ b off x, A = some ⟨b, off, none⟩ ∧ b < w.heap.size ∧ l[i]? = some x ∧
    w.cell? ⟨b, off + i * 2, none⟩ = some (.slice x.A x.n x.c) ∧ w.cell? ⟨b, off + i * 2 + 1, none⟩ = some (.bool x.d) := by
  obtain ⟨b, off, e, hb, hc⟩ := h.el (by omega)
  have hl : i < l.length := by have := h.ln; omega
  have h1 := List.getElem?_eq_getElem hl
  exact ⟨b, off, l[i], e, hb, h1, hc i _ h1 0 _ rfl, hc i _ h1 1 _ rfl⟩
theorem SR.at1 {w : World} {A : Option Addr} {n c : Nat} {l : List ByteArray} (h : SR 1 recT w A n c l) {i : Nat} (hi : i < n) : ∃ b off x, A = some ⟨b, off, none⟩ ∧ b < w.heap.size ∧ l[i]? = some x ∧
    w.cell? ⟨b, off + i, none⟩ = some (.string x) := by
  obtain ⟨b, off, e, hb, hc⟩ := h.el (by omega)
  have hl : i < l.length := by have := h.ln; omega
  have h1 := List.getElem?_eq_getElem hl
  exact ⟨b, off, l[i], e, hb, h1, by simpa using hc i _ h1 0 _ rfl⟩

theorem info_chunk : (Tryz.prog.info? 80).map (fun i => (i.zero, i.size, i.bytes)) = some (some (aggC Ch.zero), 5, 56) := by kernel_rfl
theorem info_order : (Tryz.prog.info? 130).map (fun i => (i.zero, i.size, i.bytes)) = some (some (aggO OC.zero), 2, 32) := by kernel_rfl
theorem info_string : (Tryz.prog.info? 9).map (fun i => (i.zero, i.size, i.bytes)) = some (some (.string ByteArray.empty), 1, 16) := by kernel_rfl

/-- what a slice of records reads as -/
theorem SR.reads {α : Type} {rec : α → List Value} {s : Nat} (hs : ∀ a, (rec a).length = s) (hp : 0 < s) {w : World} {A : Option Addr} {n c : Nat} {xs : List α} (h : SR s rec w A n c xs) : Reads w w.heap.size s A n (flat rec xs) := by
  refine ⟨by rw [flat_length hs, h.ln], fun hn => ?_⟩
  obtain ⟨b, off, e, hb, hel⟩ := h.el hn
  subst e
  refine ⟨_, rfl, hb, fun j u hu => ?_⟩
  have hj := (List.getElem?_eq_some_iff.1 hu).1
  rw [flat_length hs] at hj
  obtain ⟨a, v, g1, g2, g3⟩ := flat_at' hs hp xs j hj
  have := hel (j / s) a g1 (j % s) v g2
  rw [addr_add]
  rw [g3] at hu
  cases hu
  have hdm := Nat.div_add_mod j s
  rw [Nat.mul_comm] at hdm
  rw [show off + j = off + j / s * s + j % s by omega]
  exact this
theorem flat_one {α : Type} {rec : α → List Value} (h1 : ∀ a, ∀ u ∈ rec a, u.oneCell' = true) (xs : List α) : ∀ u ∈ flat rec xs, u.oneCell' = true := by
  intro u hu
  obtain ⟨p, _, hp⟩ := List.mem_flatMap.1 hu
  exact h1 p u hp

end Go.Proofs.YtlmmgjgkmbmgpaaGreatDoor

namespace Go.Proofs.YtlmmgjgkmbmgpaaGreatDoor
open Go.RowKit

section
variable {α : Type}
/-- the index of the first element that fulfils p, -1 if there is none -/
def idxFrom (p : α → Bool) : List α → Nat → Int
  | [], _ => -1
  | c :: r, i => if p c then (i : Int) else idxFrom p r (i + 1)
def idxI (p : α → Bool) (l : List α) : Int := idxFrom p l 0
theorem idxFrom_range (p : α → Bool) : ∀ (l : List α) (k : Nat), (idxFrom p l k = -1 ∧ ∀ c ∈ l, p c = false) ∨ ∃ (i : Nat) (c : α), idxFrom p l k = (k + i : Nat) ∧ l[i]? = some c ∧ p c = true ∧ ∀ j, j < i → ∀ d, l[j]? = some d → p d = false := by
  intro l
  induction l with
  | nil => intro k; exact .inl ⟨rfl, fun _ h => by simp at h⟩
  | cons c r ih =>
    intro k
    cases hc : p c
    · rw [idxFrom, hc, if_neg (by simp)]
      rcases ih (k + 1) with ⟨h1, h2⟩ | ⟨i, d, h1, h2, h3, h4⟩
      · refine .inl ⟨h1, fun x hx => ?_⟩
        rcases List.mem_cons.1 hx with rfl | hx
        · exact hc
        · exact h2 x hx
      · refine .inr ⟨i + 1, d, by rw [h1]; omega, by simpa using h2, h3, fun j hj e he => ?_⟩
        cases j with
        | zero => simp at he; subst he; exact hc
        | succ j => exact h4 j (by omega) e (by simpa using he)
    · rw [idxFrom, hc, if_pos rfl]
      exact .inr ⟨0, c, rfl, rfl, hc, fun j hj => absurd hj (by omega)⟩
theorem idxI_range (p : α → Bool) (l : List α) : (idxI p l = -1 ∧ ∀ c ∈ l, p c = false) ∨ ∃ (i : Nat) (c : α), idxI p l = (i : Nat) ∧ l[i]? = some c ∧ p c = true ∧ ∀ j, j < i → ∀ d, l[j]? = some d → p d = false := by
  rcases idxFrom_range p l 0 with h | ⟨i, c, h1, h⟩
  · exact .inl h
  · exact .inr ⟨i, c, by rw [idxI, h1, Nat.zero_add], h⟩
/-- n elements from a place on are replaced by others -/
def repl (l : List α) (at_ n : Nat) (new : List α) : List α := l.take at_ ++ new ++ l.drop (at_ + n)
theorem set_repl {l : List α} {i : Nat} (h : i < l.length) (x : α) : l.set i x = repl l i 1 [x] := by
  rw [List.set_eq_take_append_cons_drop, if_pos h, repl]
  simp
theorem insert_repl {l : List α} {i : Nat} (h : i < l.length) (x y : α) : (l.set i x).take (i + 1) ++ [y] ++ (l.set i x).drop (i + 1) = repl l i 1 [x, y] := by
  rw [set_repl h, repl, repl]
  have h1 : (l.take i ++ [x]).length = i + 1 := by simp; omega
  rw [← h1, List.take_left, List.drop_left, h1]
  simp
theorem erase_repl {l : List α} {i : Nat} (h : i + 1 < l.length) (x : α) : (l.set i x).eraseIdx (i + 1) = repl l i 2 [x] := by
  rw [set_repl (by omega), List.eraseIdx_eq_take_drop_succ, repl, repl]
  have h1 : (l.take i ++ [x]).length = i + 1 := by simp; omega
  rw [← h1, List.take_left, List.drop_append, h1, List.drop_of_length_le (by omega), show i + 1 + 1 - (i + 1) = 1 by omega]
  simp
end

def begB (key : ByteArray) (c : Ch) : Bool := c.lo.toList == key.toList
def inB (key : ByteArray) (c : Ch) : Bool := !(Op.bytesLess key.toList c.lo.toList) && (c.hi.toList == [] || Op.bytesLess key.toList c.hi.toList)
def shB (s : Int) (c : Ch) : Bool := c.sh == s

/-- a path is valid -/
def pathB (p : List ByteArray) : Bool := decide (1 ≤ p.length) && decide (p.length ≤ 16) && p.all nameB
/-- two paths are the same -/
def sameP : List ByteArray → List ByteArray → Bool
  | [], [] => true
  | a :: r, b :: s => (a.toList == b.toList) && sameP r s
  | _, _ => false
def ordL : List Od → List Od → Int
  | _, [] => 0
  | done, o :: r => if pathB o.p = false then 10 else if done.any (fun e => sameP e.p o.p) then 12 else ordL (done ++ [o]) r
def ordE (ks : List Od) : Int := if 8 < ks.length then 2 else ordL [] ks
def keyE (ks : List Od) (ha : Bool) : Int := if ordE ks ≠ 0 then ordE ks else if ks.length = 0 ∨ (ha = true ∧ 1 < ks.length) then 11 else if ks.any (·.d) then 11 else 0
def badC (v : Int) (c : Ch) : Bool := decide (c.sh < 0) || decide (8 ≤ c.sh) || decide (c.ver < 1) || decide (v < c.ver)
/-- the chunks follow each other -/
def linkB : List Ch → Bool
  | [] => true
  | [_] => true
  | a :: b :: r => (b.lo.toList == a.hi.toList) && !(Op.bytesLess b.lo.toList a.lo.toList || b.lo.toList == a.lo.toList) && linkB (b :: r)
def endsB (l : List Ch) : Bool := match l with
  | [] => false
  | a :: r => (a.lo.toList == []) && (((a :: r).getLast?.map (·.hi.toList)) == some [])
def routE (R : Ro) : Int :=
  if nameB R.sp = false then 9 else if keyE R.ks R.ha ≠ 0 then keyE R.ks R.ha else if 64 < R.cs.length then 2 else if R.ep < 1 ∨ R.ver < 1 then 1
  else if R.cs.any (badC R.ver) then 1 else if endsB R.cs = false then 4 else if linkB R.cs = false then 4 else 0

/-- the next version -/
def nx (v : Int) : Int := wrap64 (v + 1)
def splitR (R : Ro) (key : ByteArray) : Ro × Int :=
  if key.toList = [] ∨ 0 ≤ idxI (begB key) R.cs ∨ idxI (inB key) R.cs < 0 then (Ro.zero, 1)
  else if 64 ≤ R.cs.length then (Ro.zero, 2)
  else match R.cs[(idxI (inB key) R.cs).toNat]? with
    | none => (Ro.zero, 1)
    | some c => if c.ju then (Ro.zero, 23) else (⟨R.sp, R.ks, R.ha, R.ep, nx R.ver, repl R.cs (idxI (inB key) R.cs).toNat 1 [⟨c.lo, key, c.sh, nx R.ver, c.ju⟩, ⟨key, c.hi, c.sh, nx R.ver, c.ju⟩]⟩, 0)
def joinR (R : Ro) (key : ByteArray) : Ro × Int :=
  if idxI (begB key) R.cs < 1 then (Ro.zero, 15)
  else match R.cs[(idxI (begB key) R.cs).toNat - 1]?, R.cs[(idxI (begB key) R.cs).toNat]? with
    | some a, some b => if a.sh ≠ b.sh ∨ a.ju = true ∨ b.ju = true then (Ro.zero, 23) else (⟨R.sp, R.ks, R.ha, R.ep, nx R.ver, repl R.cs ((idxI (begB key) R.cs).toNat - 1) 2 [⟨a.lo, b.hi, a.sh, nx R.ver, a.ju⟩]⟩, 0)
    | _, _ => (Ro.zero, 15)
/-- the first chunk of a shard gets a version -/
def touch (l : List Ch) (s v : Int) : List Ch :=
  if idxI (shB s) l < 0 then l else match l[(idxI (shB s) l).toNat]? with
    | none => l
    | some c => l.set (idxI (shB s) l).toNat ⟨c.lo, c.hi, c.sh, v, c.ju⟩
def giveR (R : Ro) (key : ByteArray) (z : Int) : Ro × Int :=
  if idxI (begB key) R.cs < 0 then (Ro.zero, 15)
  else if z < 0 ∨ 8 ≤ z then (Ro.zero, 1)
  else match R.cs[(idxI (begB key) R.cs).toNat]? with
    | none => (Ro.zero, 15)
    | some c => if c.sh = z ∨ c.ju = true then (Ro.zero, 23) else (⟨R.sp, R.ks, R.ha, R.ep, nx R.ver, touch (repl R.cs (idxI (begB key) R.cs).toNat 1 [⟨c.lo, c.hi, z, nx R.ver, c.ju⟩]) c.sh (nx R.ver)⟩, 0)
def markR (R : Ro) (key : ByteArray) (j : Bool) : Ro × Int :=
  if idxI (begB key) R.cs < 0 then (Ro.zero, 15)
  else match R.cs[(idxI (begB key) R.cs).toNat]? with
    | none => (Ro.zero, 15)
    | some c => if c.ju = j then (R, 0) else (⟨R.sp, R.ks, R.ha, R.ep, nx R.ver, repl R.cs (idxI (begB key) R.cs).toNat 1 [⟨c.lo, c.hi, c.sh, nx R.ver, j⟩]⟩, 0)
def newR (sp : ByteArray) (ks : List Od) (ha : Bool) (s : Int) : Ro × Int :=
  if routE ⟨sp, ks, ha, 1, 1, [⟨ByteArray.empty, ByteArray.empty, s, 1, false⟩]⟩ ≠ 0 then (Ro.zero, routE ⟨sp, ks, ha, 1, 1, [⟨ByteArray.empty, ByteArray.empty, s, 1, false⟩]⟩)
  else (⟨sp, ks, ha, 1, 1, [⟨ByteArray.empty, ByteArray.empty, s, 1, false⟩]⟩, 0)

/-- what a change hands back -/
def RouOk (r : Ro × Int) (w : World) (e : Ending) (w' : World) : Prop :=
  ∃ a : RA, e = .returned (.tuple #[rval a r.1, .int .i64 r.2]) ∧ RR w' a r.1 ∧ Below w.heap.size w w'

end Go.Proofs.YtlmmgjgkmbmgpaaGreatDoor

namespace Go.Proofs.YtlmmgjgkmbmgpaaGreatDoor
open Go.RowKit

set_option maxHeartbeats 1000000 in
theorem notName_any (s : ByteArray) (w : World) : Calls Tryz.prog 164 #[.string s] w fun e w' => e = .returned (.bool (!nameB s)) ∧ w' = w := by
  by_cases h1 : s.size < 1
  · have HV : Hid (nameB s = false) := by unfold Hid nameB; rw [decide_eq_false (by omega)]; rfl
    go_enter Tryz.func164, Tryz.ntmps164
    go_wp2_with fail
    go_ret
    exact ⟨by rw [HV.out]; rfl, rfl⟩
  by_cases h2 : 32 < s.size
  · have HV : Hid (nameB s = false) := by unfold Hid nameB; rw [decide_eq_true (by omega), decide_eq_false (by omega)]; rfl
    go_enter Tryz.func164, Tryz.ntmps164
    go_wp2_with fail
    go_ret
    exact ⟨by rw [HV.out]; rfl, rfl⟩
  cases h3 : ((s[0].toNat : Int) == 36)
  rotate_left
  · have HV : Hid (nameB s = false) := by
      have : s[0].toNat = 36 := by simp at h3; omega
      unfold Hid nameB
      rw [decide_eq_true (by omega), decide_eq_true (by omega), head_of s (by omega), this]
      rfl
    go_enter Tryz.func164, Tryz.ntmps164
    go_wp2_with fail
    go_ret
    exact ⟨by rw [HV.out]; rfl, rfl⟩
  have HA : Hid (nameB s = s.data.toList.all okB) := by
    have : ¬ s[0].toNat = 36 := by simp at h3; omega
    unfold Hid nameB
    rw [decide_eq_true (by omega), decide_eq_true (by omega), head_of s (by omega)]
    simp [this]
  go_enter Tryz.func164, Tryz.ntmps164
  go_wp2_with fail
  go_loopw [19] (fun v wr => ∃ i : Nat, i ≤ s.size ∧ v = .int .i64 i ∧ (s.data.toList.take i).all okB = true ∧ wr = w) (fun v _ => s.size - (intOf v).toNat)
  case atStart => exact ⟨0, Nat.zero_le _, rfl, all_zero, rfl⟩
  case round =>
    obtain ⟨i, hi, rfl, ha, rfl⟩ := hrel
    have HL := Lib.hid ha
    clear ha
    by_cases hlt : i < s.size
    · have hx := s[i].toNat_lt
      by_cases hb : (s[i].toNat : Int) < 33
      · have HV : Hid (nameB s = false) := by rw [Hid, HA.out]; exact all_not hlt (by unfold okB; rw [decide_eq_false (by omega)]; rfl)
        go_wp2_with fail
        go_ret
        exact ⟨by rw [HV.out]; rfl, rfl⟩
      by_cases hc : 126 < (s[i].toNat : Int)
      · have HV : Hid (nameB s = false) := by rw [Hid, HA.out]; exact all_not hlt (by unfold okB; rw [decide_eq_true (by omega), decide_eq_false (by omega)]; rfl)
        go_wp2_with fail
        go_ret
        exact ⟨by rw [HV.out]; rfl, rfl⟩
      cases hd : ((s[i].toNat : Int) == 46)
      rotate_left
      · have HV : Hid (nameB s = false) := by
          have : s[i].toNat = 46 := by simp at hd; omega
          rw [Hid, HA.out]
          exact all_not hlt (by unfold okB; rw [this]; rfl)
        go_wp2_with fail
        go_ret
        exact ⟨by rw [HV.out]; rfl, rfl⟩
      have HN : Hid ((s.data.toList.take (i + 1)).all okB = true) := by
        have : ¬ s[i].toNat = 46 := by simp at hd; omega
        exact all_next hlt HL.out (by unfold okB; rw [decide_eq_true (by omega), decide_eq_true (by omega)]; simp [this])
      go_wp2_with fail
      go_roundw
      case rel => exact ⟨i + 1, by omega, by go_num, HN.out, trivial⟩
      case measure => simp [intOf]; omega
    · have HV : Hid (nameB s = true) := by rw [Hid, HA.out]; exact all_end (by omega) HL.out
      go_wp2_with fail
      go_ret
      exact ⟨by rw [HV.out]; rfl, rfl⟩

theorem idxFrom_at {α : Type} {p : α → Bool} {l : List α} {i : Nat} {x : α} (h : l[i]? = some x) : idxFrom p (l.drop i) i = if p x then (i : Int) else idxFrom p (l.drop (i + 1)) (i + 1) := by rw [drop_of h, idxFrom]
theorem idxFrom_end {α : Type} {p : α → Bool} {l : List α} {i : Nat} (h : l.length ≤ i) : idxFrom p (l.drop i) i = -1 := by rw [List.drop_of_length_le h, idxFrom]

set_option maxHeartbeats 1000000 in
theorem indexN_any (l : List ByteArray) (A : Option Addr) (n c : Nat) (w : World) (h : ST w A n c l) :
    Calls Tryz.prog 189 #[.slice A n c, .func (.func 164) #[] #[]] w fun e w' => e = .returned (.int .i64 (idxI (fun s => !nameB s) l)) ∧ w' = w := by
  have hz : n ≤ 140737488355328 := by have := h.sz; unfold reach at this; omega
  have H := Lib.hid h
  clear h
  go_enter Tryz.func189, Tryz.ntmps189
  go_wp2_with fail
  go_loopw [8] (fun v wr => ∃ i : Nat, i ≤ n ∧ v = .int .i64 i ∧ idxI (fun s => !nameB s) l = idxFrom (fun s => !nameB s) (l.drop i) i ∧ wr = w) (fun v _ => n - (intOf v).toNat)
  case atStart => exact ⟨0, Nat.zero_le _, rfl, rfl, rfl⟩
  case round =>
    obtain ⟨i, hi, rfl, ha, rfl⟩ := hrel
    have HA := Lib.hid ha
    clear ha
    by_cases hlt : i < n
    · obtain ⟨b, off, x, hA, hb, hx, e0⟩ := H.out.sr.at1 hlt
      subst hA
      have HX := Lib.hid (idxFrom_at (p := fun s => !nameB s) hx)
      clear hx
      go_wp2_with fail
      refine (notName_any x _).mono ?_
      rintro e w1 ⟨rfl, rfl⟩
      cases hq : nameB x
      · have HF : Hid (idxI (fun s => !nameB s) l = (i : Int)) := by rw [Hid, HA.out, HX.out, hq]; rfl
        go_wp2_with fail
        go_ret
        exact ⟨by rw [HF.out]; rfl, rfl⟩
      · have HF : Hid (idxI (fun s => !nameB s) l = idxFrom (fun s => !nameB s) (l.drop (i + 1)) (i + 1)) := by rw [Hid, HA.out, HX.out, hq]; rfl
        go_wp2_with fail
        go_roundw
        case rel => exact ⟨i + 1, by omega, by go_num, HF.out, trivial⟩
        case measure => simp [intOf]; omega
    · have HF : Hid (idxI (fun s => !nameB s) l = -1) := by rw [Hid, HA.out]; exact idxFrom_end (by have := H.out.sr.ln; omega)
      go_wp2_with fail
      go_ret
      exact ⟨by rw [HF.out]; rfl, rfl⟩
theorem idx_all (p : ByteArray → Bool) (l : List ByteArray) : decide (0 ≤ idxI (fun s => !p s) l) = !l.all p := by
  rcases idxI_range (fun s => !p s) l with ⟨h1, h2⟩ | ⟨i, c, h1, h2, h3, _⟩
  · rw [h1]
    have : l.all p = true := List.all_eq_true.2 fun x hx => by simpa using h2 x hx
    rw [this]
    rfl
  · rw [h1]
    have : l.all p = false := List.all_eq_false.2 ⟨c, List.mem_of_getElem? h2, by simpa using h3⟩
    rw [this, decide_eq_true (by omega)]
    rfl
theorem containsN_any (l : List ByteArray) (A : Option Addr) (n c : Nat) (w : World) (h : ST w A n c l) :
    Calls Tryz.prog 163 #[.slice A n c, .func (.func 164) #[] #[]] w fun e w' => e = .returned (.bool (!l.all nameB)) ∧ w' = w := by
  have H := Lib.hid h
  clear h
  have HV := Lib.hid (idx_all nameB l)
  go_enter Tryz.func163, Tryz.ntmps163
  go_wp2_with fail
  refine (indexN_any l _ _ _ _ H.out).mono ?_
  rintro e w1 ⟨rfl, rfl⟩
  go_wp2_with fail
  go_ret
  exact ⟨by rw [← HV.out]; rfl, rfl⟩
set_option maxHeartbeats 1000000 in
theorem path_any (l : List ByteArray) (A : Option Addr) (n c : Nat) (w : World) (h : ST w A n c l) :
    Calls Tryz.prog 113 #[.slice A n c] w fun e w' => e = .returned (.bool (pathB l)) ∧ w' = w := by
  have hz : n ≤ 140737488355328 := by have := h.sz; unfold reach at this; omega
  have H := Lib.hid h
  have hn := Lib.hid h.sr.ln
  clear h
  by_cases h1 : 1 ≤ n
  · by_cases h2 : n ≤ 16
    · have HV : Hid (pathB l = l.all nameB) := by unfold Hid pathB; rw [← hn.out, decide_eq_true h1, decide_eq_true h2]; rfl
      go_enter Tryz.func113, Tryz.ntmps113
      go_wp2_with fail
      refine (containsN_any l _ _ _ _ H.out).mono ?_
      rintro e w1 ⟨rfl, rfl⟩
      go_wp2_with fail
      go_ret
      exact ⟨by rw [HV.out]; simp, rfl⟩
    · have HV : Hid (pathB l = false) := by unfold Hid pathB; rw [← hn.out, decide_eq_true h1, decide_eq_false h2]; rfl
      go_enter Tryz.func113, Tryz.ntmps113
      go_wp2_with fail
      go_ret
      exact ⟨by rw [HV.out]; rfl, rfl⟩
  · have HV : Hid (pathB l = false) := by unfold Hid pathB; rw [← hn.out, decide_eq_false h1]; rfl
    go_enter Tryz.func113, Tryz.ntmps113
    go_wp2_with fail
    go_ret
    exact ⟨by rw [HV.out]; rfl, rfl⟩

end Go.Proofs.YtlmmgjgkmbmgpaaGreatDoor
