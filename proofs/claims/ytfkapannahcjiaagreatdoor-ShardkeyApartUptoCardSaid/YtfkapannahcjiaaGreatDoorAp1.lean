/- Parts of the proof, joined: RgPure, Kit, Kit2, Val, ValPure, ValCmpPure, Kit3, Kit4, Kit5, Kit7, SortOrd. -/
import Derived.Test.YtfkapannahcjiaaGreatDoorRows
import Derived.Lib.Hide
import Derived.WalkKit
import Derived.WalkSpells
import Derived.WalkLawsBesides
import Derived.Deep.QuietTactic
import Derived.BigQuiet
import Derived.Deep.DeepCutAuto
import Derived.Deep.CutBlock
import Derived.Laws.Rows
import Derived.Laws.ResultCell
import Derived.RegionTactic
import Derived.BigRegion
import Derived.Lib.Bytealg
import Derived.Lib.Small
import Derived.Maps.AppendAt
import Derived.Deep.AppendLies
import Derived.OwnWalk
import Derived.Deep.RegionLaw
import Derived.StillTail
/- Ranges of keys: ascending lists, each range once, those that touch joined. Plain law. -/
namespace Go.Proofs.YtfkapannahcjiaaGreatDoor

structure SOrd {α : Type} (lt : α → α → Prop) : Prop where
  irr : ∀ a, ¬ lt a a
  tr : ∀ {a b c}, lt a b → lt b c → lt a c
  tot : ∀ a b, lt a b ∨ a = b ∨ lt b a

section
variable {α : Type} {lt : α → α → Prop}

/-- ascending by the lower ends -/
def AscR (lt : α → α → Prop) (l : List (α × α)) : Prop := l.Pairwise fun x y => lt x.1 y.1
theorem AscR.unique (o : SOrd lt) : ∀ {l m : List (α × α)}, AscR lt l → AscR lt m → (∀ x, x ∈ l ↔ x ∈ m) → l = m
  | [], [], _, _, _ => rfl
  | [], y :: s, _, _, h => by have := (h y).2 (by simp); simp at this
  | x :: r, [], _, _, h => by have := (h x).1 (by simp); simp at this
  | x :: r, y :: s, hl, hm, h => by
    obtain ⟨h1, h2⟩ := List.pairwise_cons.1 hl
    obtain ⟨k1, k2⟩ := List.pairwise_cons.1 hm
    have e : x = y := by
      rcases List.mem_cons.1 ((h x).1 (by simp)) with e | hx
      · exact e
      · rcases List.mem_cons.1 ((h y).2 (by simp)) with e | hy
        · exact e.symm
        · exact absurd (o.tr (k1 x hx) (h1 y hy)) (o.irr _)
    subst e
    have : r = s := AscR.unique o h2 k2 fun z => by
      constructor
      · intro hz
        rcases List.mem_cons.1 ((h z).1 (by simp [hz])) with e | hz'
        · subst e; exact absurd (h1 _ hz) (o.irr _)
        · exact hz'
      · intro hz
        rcases List.mem_cons.1 ((h z).2 (by simp [hz])) with e | hz'
        · subst e; exact absurd (k1 _ hz) (o.irr _)
        · exact hz'
    rw [this]

set_option linter.unusedSectionVars false
variable [DecidableEq α]
/-- the next range joins the last one, or stands behind it -/
def jstep (e : α) (out : List (α × α)) (r : α × α) : List (α × α) := match out.getLast? with
  | none => out ++ [r]
  | some q => if q.2 ≠ e ∧ q.2 = r.1 then out.dropLast ++ [(q.1, r.2)] else out ++ [r]
def jAll (e : α) (l : List (α × α)) : List (α × α) := l.foldl (jstep e) []

theorem jstep_set {e : α} {out : List (α × α)} {q r : α × α} {n : Nat} (hn : out.length = n + 1) (hq : out[n]? = some q) (h1 : q.2 ≠ e) (h2 : q.2 = r.1) : jstep e out r = out.set n (q.1, r.2) := by
  have hl : out.getLast? = some q := by rw [List.getLast?_eq_getElem?, hn]; exact hq
  obtain ⟨d, rfl⟩ := List.getLast?_eq_some_iff.1 hl
  have hd : d.length = n := by simpa using hn
  unfold jstep
  rw [hl]
  simp only
  rw [if_pos ⟨h1, h2⟩, List.dropLast_concat, ← hd]
  simp
theorem jstep_app {e : α} {out : List (α × α)} {r : α × α} (h : ∀ q, out[out.length - 1]? = some q → ¬ (q.2 ≠ e ∧ q.2 = r.1)) : jstep e out r = out ++ [r] := by
  unfold jstep
  cases hq : out.getLast? with
  | none => rfl
  | some q =>
    rw [List.getLast?_eq_getElem?] at hq
    simp only
    rw [if_neg (h q hq)]
theorem jAll_take {e : α} {l : List (α × α)} {r : α × α} {i : Nat} (h : l[i]? = some r) : jAll e (l.take (i + 1)) = jstep e (jAll e (l.take i)) r := by
  unfold jAll
  rw [List.take_add_one, h, Option.toList_some, List.foldl_append]
  rfl
theorem jstep_len (e : α) (out : List (α × α)) (r : α × α) : (jstep e out r).length ≤ out.length + 1 := by
  unfold jstep
  split
  · simp
  · split
    · simp
    · simp
theorem jAll_len (e : α) (l : List (α × α)) (i : Nat) : (jAll e (l.take i)).length ≤ i := by
  induction i with
  | zero => simp [jAll]
  | succ i ih =>
    cases h : l[i]? with
    | none =>
      have hl := List.getElem?_eq_none_iff.1 h
      rw [List.take_of_length_le (by omega)]
      rw [List.take_of_length_le hl] at ih
      omega
    | some r =>
      rw [jAll_take h]
      have := jstep_len e (jAll e (l.take i)) r
      omega

/-- what the ranges of a list are like: none is empty, and each ends at or ahead of the next one's beginning -/
structure StepR (lt : α → α → Prop) (e : α) (l : List (α × α)) : Prop where
  ne : ∀ x ∈ l, x.2 = e ∨ lt x.1 x.2
  ap : ∀ i x y, l[i]? = some x → l[i + 1]? = some y → x.2 ≠ e ∧ ¬ lt y.1 x.2
structure AptR (lt : α → α → Prop) (e : α) (l : List (α × α)) : Prop where
  ne : ∀ x ∈ l, x.2 = e ∨ lt x.1 x.2
  ap : ∀ i x y, l[i]? = some x → l[i + 1]? = some y → x.2 ≠ e ∧ lt x.2 y.1
theorem AptR.snoc {e : α} {l : List (α × α)} {r : α × α} (h : AptR lt e l) (hr : r.2 = e ∨ lt r.1 r.2) (hl : ∀ q, l.getLast? = some q → q.2 ≠ e ∧ lt q.2 r.1) : AptR lt e (l ++ [r]) := by
  refine ⟨fun x hx => ?_, fun i x y hx hy => ?_⟩
  · rcases List.mem_append.1 hx with hx | hx
    · exact h.ne x hx
    · obtain rfl : x = r := by simpa using hx
      exact hr
  · have hi : i + 1 < (l ++ [r]).length := (List.getElem?_eq_some_iff.1 hy).1
    rw [List.length_append, List.length_singleton] at hi
    by_cases hil : i + 1 < l.length
    · rw [List.getElem?_append_left (by omega)] at hx
      rw [List.getElem?_append_left hil] at hy
      exact h.ap i x y hx hy
    · have hi2 : i + 1 = l.length := by omega
      rw [List.getElem?_append_left (by omega)] at hx
      rw [List.getElem?_append_right (by omega), hi2, Nat.sub_self] at hy
      obtain rfl : r = y := by simpa using hy
      refine hl x ?_
      rw [List.getLast?_eq_getElem?, ← hi2]
      exact hx
theorem jstep_apt (o : SOrd lt) {e : α} {out : List (α × α)} {r : α × α} (h : AptR lt e out) (hr : r.2 = e ∨ lt r.1 r.2) (hl : ∀ q, out.getLast? = some q → q.2 ≠ e ∧ ¬ lt r.1 q.2) :
    AptR lt e (jstep e out r) ∧ ∃ q, (jstep e out r).getLast? = some q ∧ q.2 = r.2 := by
  unfold jstep
  cases hq : out.getLast? with
  | none =>
    refine ⟨h.snoc hr fun q hq' => ?_, r, by simp, rfl⟩
    rw [hq] at hq'; simp at hq'
  | some q =>
    obtain ⟨q1, q2⟩ := hl q hq
    obtain ⟨d, ho⟩ := List.getLast?_eq_some_iff.1 hq
    subst ho
    simp only
    by_cases hc : q.2 = r.1
    · rw [if_pos ⟨q1, hc⟩]
      have hd : AptR lt e d := by
        refine ⟨fun x hx => h.ne x (by simp [hx]), fun i x y hx hy => ?_⟩
        have k1 := (List.getElem?_eq_some_iff.1 hx).1
        have k2 := (List.getElem?_eq_some_iff.1 hy).1
        refine h.ap i x y ?_ ?_
        · rw [List.getElem?_append_left k1]; exact hx
        · rw [List.getElem?_append_left k2]; exact hy
      rw [List.dropLast_concat]
      refine ⟨hd.snoc ?_ ?_, (q.1, r.2), by simp, rfl⟩
      · have hq1 : lt q.1 q.2 := by
          rcases h.ne q (by simp) with k | k
          · exact absurd k q1
          · exact k
        rcases hr with hr | hr
        · exact .inl hr
        · exact .inr (o.tr hq1 (hc ▸ hr))
      · intro p hp
        rw [List.getLast?_eq_getElem?] at hp
        have k1 := (List.getElem?_eq_some_iff.1 hp).1
        refine h.ap (d.length - 1) p q ?_ ?_
        · rw [List.getElem?_append_left k1]; exact hp
        · rw [show d.length - 1 + 1 = d.length by omega]
          simp
    · rw [if_neg fun k => hc k.2]
      refine ⟨h.snoc hr fun p hp => ?_, r, by simp, rfl⟩
      rw [hq] at hp
      obtain rfl := Option.some.inj hp
      refine ⟨q1, ?_⟩
      rcases o.tot q.2 r.1 with k | k | k
      · exact k
      · exact absurd k hc
      · exact absurd k q2
theorem foldl_apt (o : SOrd lt) {e : α} : ∀ (l out : List (α × α)), AptR lt e out → StepR lt e l → (∀ q r, out.getLast? = some q → l.head? = some r → q.2 ≠ e ∧ ¬ lt r.1 q.2) → AptR lt e (l.foldl (jstep e) out)
  | [], out, h, _, _ => h
  | r :: l, out, h, hs, hq => by
    obtain ⟨h1, q, h2, h3⟩ := jstep_apt o (r := r) h (hs.ne r (by simp)) fun q k => hq q r k rfl
    refine foldl_apt o l _ h1 ⟨fun x hx => hs.ne x (by simp [hx]), fun i x y hx hy => hs.ap (i + 1) x y (by simpa using hx) (by simpa using hy)⟩ ?_
    intro q' r' hq' hr'
    rw [h2] at hq'
    obtain rfl := Option.some.inj hq'
    have := hs.ap 0 r r' rfl (by cases l with | nil => simp at hr' | cons a b => simpa using hr')
    rw [h3]
    exact this
/-- the joined ranges are apart -/
theorem jAll_apt (o : SOrd lt) {e : α} {l : List (α × α)} (h : StepR lt e l) : AptR lt e (jAll e l) :=
  foldl_apt o l [] ⟨fun x hx => by simp at hx, fun i x y hx => by simp at hx⟩ h fun q r hq => by simp at hq

/-- each element once: of equal neighbours the first stays -/
def once : List (α × α) → List (α × α)
  | [] => []
  | x :: r => match once r with
    | [] => [x]
    | y :: s => if x = y then y :: s else x :: y :: s
theorem once_mem : ∀ {l : List (α × α)} (x : α × α), x ∈ once l ↔ x ∈ l
  | [], x => Iff.rfl
  | a :: r, x => by
    have ih := once_mem (l := r) x
    unfold once
    cases hr : once r with
    | nil => rw [hr] at ih; simp only [List.mem_cons, ← ih]
    | cons y s =>
      rw [hr] at ih
      simp only
      by_cases h : a = y
      · rw [if_pos h, List.mem_cons (a := x) (b := a), ← ih, h, List.mem_cons]
        constructor
        · intro k; exact .inr k
        · rintro (k | k)
          · exact .inl k
          · exact k
      · rw [if_neg h, List.mem_cons (a := x) (b := a), ih, List.mem_cons (a := x) (b := a) (l := r)]
theorem once_asc (o : SOrd lt) : ∀ {l : List (α × α)}, l.Pairwise (fun x y => ¬ lt y.1 x.1) → (∀ x ∈ l, ∀ y ∈ l, x.1 = y.1 → x = y) → AscR lt (once l)
  | [], _, _ => List.Pairwise.nil
  | a :: r, h, hf => by
    obtain ⟨h1, h2⟩ := List.pairwise_cons.1 h
    have ih := once_asc o h2 fun x hx y hy => hf x (by simp [hx]) y (by simp [hy])
    unfold once
    cases hr : once r with
    | nil => exact List.pairwise_singleton _ _
    | cons y s =>
      rw [hr] at ih
      have hm : ∀ z, z ∈ y :: s → z ∈ r := fun z hz => (once_mem z).1 (hr ▸ hz)
      simp only
      by_cases e : a = y
      · rw [if_pos e]; exact ih
      · rw [if_neg e]
        have hay : lt a.1 y.1 := by
          have hy := hm y (by simp)
          rcases o.tot a.1 y.1 with k | k | k
          · exact k
          · exact absurd (hf a (by simp) y (by simp [hy]) k) e
          · exact absurd k (h1 y hy)
        refine List.pairwise_cons.2 ⟨fun z hz => ?_, ih⟩
        rcases List.mem_cons.1 hz with rfl | hz
        · exact hay
        · exact o.tr hay ((List.pairwise_cons.1 ih).1 z hz)
/-- two ascending lists with the elements of one list -/
theorem asc_same (o : SOrd lt) {xs l m S : List (α × α)} (hl : AscR lt l) (h1 : ∀ y, y ∈ l ↔ y ∈ xs) (hS : ∀ y, y ∈ S ↔ y ∈ xs) (hp : S.Pairwise fun x y => ¬ lt y.1 x.1) (hf : ∀ x ∈ xs, ∀ y ∈ xs, x.1 = y.1 → x = y)
    (hm : m = once S) : l = m := by
  subst hm
  refine hl.unique o (once_asc o hp fun x hx y hy => hf x ((hS x).1 hx) y ((hS y).1 hy)) fun y => ?_
  rw [h1, once_mem, hS]
end
end Go.Proofs.YtfkapannahcjiaaGreatDoor


/- Small helpers of our own: worlds that only grew, and a drawn region whose calls only make memory. -/
namespace Go.Proofs.YtfkapannahcjiaaGreatDoor
open Go.RowKit

end Go.Proofs.YtfkapannahcjiaaGreatDoor
namespace Go.RowKit
theorem Below.step {W w1 w2 : World} (h : Below W.heap.size W w1) (k : Below w1.heap.size w1 w2) : Below W.heap.size W w2 := h.trans (k.mono h.size)
end Go.RowKit
namespace Go.Proofs.YtfkapannahcjiaaGreatDoor
open Go.RowKit

end Go.Proofs.YtfkapannahcjiaaGreatDoor
namespace Go.RowKit
theorem Below.drewN {B : Nat} {a w : World} (h : Below B a w) (n : Nat) : Below B a (w.drewN n) := ⟨h.os, h.tape, h.output, h.size, h.block⟩
end Go.RowKit
namespace Go.Proofs.YtfkapannahcjiaaGreatDoor
open Go.RowKit

/-- A world that was reached from w by making memory alone. -/
structure BW (w : World) where
  val : World
  below : Below w.heap.size w val
instance (w : World) : Nonempty (BW w) := ⟨⟨w, Below.refl _ _⟩⟩
theorem BW.cell {w : World} (k : BW w) {a : Addr} {v : Value} (h : w.cell? a = some v) : k.val.cell? a = some v :=
  (k.below.cell (World.block_lt_of_cell? w a h)).trans h

/-- A region that draws its order and whose operations read, compute, and call functions that only make memory. -/
theorem wp_region_bw {P : Program} {id : Nat} {Q : Exit → Act → World → Prop} {a : Act} {w : World} {l : List Oper} (hm : P.follows .mixedOrders = true) (hB : Region.lexB .any l.toArray = true)
    (h : wpQuiet P l.toArray (fun w' => ∃ k : BW w, w' = k.val) (fun a' => ∀ w', (∃ k : BW w, w' = k.val) → Q .normal a' w') l a) : (Code.region id l.toArray true).wp P Q a w :=
  wp_region_quiet (C := fun w' => ∃ k : BW w, w' = k.val) hm hB ⟨⟨w.drew, (Below.refl _ _).drew⟩, rfl⟩ (by simpa using h)

theorem Calls.bw {P : Program} {f : FuncId} {args : Array Value} {w : World} {k : BW w} {v : Value}
    (h : Calls P f args k.val fun e w' => e = .returned v ∧ Below k.val.heap.size k.val w') : Calls P f args k.val fun e w'' => e = .returned v ∧ ∃ k : BW w, w'' = k.val :=
  h.mono fun _ _ ⟨he, hb⟩ => ⟨he, ⟨_, k.below.step hb⟩, rfl⟩

/-- Block g is known whole. -/
def Blk (w : World) (g : Nat) (t : TypeId) (cs : Array Value) : Prop := w.heap[g]? = some (.cells cs t (0, 0))

section
variable {w w' : World} {g : Nat} {t : TypeId} {cs : Array Value}
theorem Blk.lt (h : Blk w g t cs) : g < w.heap.size := by
  rcases Nat.lt_or_ge g w.heap.size with hlt | hge
  · exact hlt
  · unfold Blk at h; rw [Array.getElem?_eq_none hge] at h; cases h
theorem Blk.cell (h : Blk w g t cs) (i : Nat) : w.cell? ⟨g, i, none⟩ = cs[i]? := cell_of_row w g i cs t (0, 0) h
theorem Blk.frozen (h : Blk w g t cs) (i : Nat) : w.frozen? ⟨g, i, none⟩ = false := by
  unfold Blk at h
  simp [World.frozen?, h]
theorem Blk.new (w : World) (t : TypeId) (cs : Array Value) : Blk (w.alloc (.cells cs t)) w.heap.size t cs := heap_alloc_new w _
theorem Blk.new_at {w : World} {g : Nat} {t : TypeId} {cs : Array Value} (h : g = w.heap.size) : Blk (w.alloc (.cells cs t)) g t cs := by rw [h]; exact Blk.new w t cs
theorem Blk.drew (h : Blk w g t cs) : Blk w.drew g t cs := h
theorem Blk.drewN (h : Blk w g t cs) (n : Nat) : Blk (w.drewN n) g t cs := h
theorem Blk.alloc (h : Blk w g t cs) (o : Obj) : Blk (w.alloc o) g t cs := (Below.heap_alloc w o g h.lt).trans h
theorem Blk.set_ (h : Blk w g t cs) (i : Nat) (u : Value) : Blk (w.setCell ⟨g, i, none⟩ u) g t (cs.setIfInBounds i u) := by
  unfold Blk at h ⊢
  simp [World.setCell, Array.getElem?_modify, h]
theorem Blk.far (h : Blk w g t cs) {p : Addr} (hp : g ≠ p.block) (u : Value) : Blk (w.setCell p u) g t cs := (Below.heap_setCell w p u g hp).trans h
theorem Blk.below {B : Nat} (h : Blk w g t cs) (hb : Below B w w') (hg : g < B) : Blk w' g t cs := (hb.block g hg).trans h
theorem Blk.grown {row : Option Nat} (h : Blk w g t cs) (hb : w.grownBy w' row) (hg : some g ≠ row) : Blk w' g t cs := (hb.block g h.lt hg).trans h
end

theorem Blk.step {w w' : World} {g : Nat} {t : TypeId} {cs : Array Value} (h : Blk w g t cs) (hb : Below w.heap.size w w') : Blk w' g t cs := h.below hb h.lt

theorem size_alloc (w : World) (o : Obj) : (w.alloc o).heap.size = w.heap.size + 1 := by simp

end Go.Proofs.YtfkapannahcjiaaGreatDoor


/- Values of type api.Value in memory: five cells. -/
namespace Go.Proofs.YtfkapannahcjiaaGreatDoor
open Go.RowKit

/-- what the five cells of a Value hold -/
structure VC where
  k : Int
  n : Int
  t : ByteArray
  LA : Option Addr
  ln : Nat
  lc : Nat
  DA : Option Addr
  dn : Nat
  dc : Nat

abbrev VC.val (v : VC) : Value := .agg #[.int .i64 v.k, .int .i64 v.n, .string v.t, .slice v.LA v.ln v.lc, .slice v.DA v.dn v.dc]
abbrev VC.arr (v : VC) : Array Value := #[.int .i64 v.k, .int .i64 v.n, .string v.t, .slice v.LA v.ln v.lc, .slice v.DA v.dn v.dc]
def VC.list (c : VC) : List Value := [.int .i64 c.k, .int .i64 c.n, .string c.t, .slice c.LA c.ln c.lc, .slice c.DA c.dn c.dc]
def VC.zero : VC := ⟨0, 0, ByteArray.empty, none, 0, 0, none, 0, 0⟩

/-- a Value lies at an address -/
def VAt (w : World) (b off : Nat) (v : VC) : Prop :=
  w.cell? ⟨b, off, none⟩ = some (.int .i64 v.k) ∧ w.cell? ⟨b, off + 1, none⟩ = some (.int .i64 v.n) ∧ w.cell? ⟨b, off + 2, none⟩ = some (.string v.t) ∧
  w.cell? ⟨b, off + 3, none⟩ = some (.slice v.LA v.ln v.lc) ∧ w.cell? ⟨b, off + 4, none⟩ = some (.slice v.DA v.dn v.dc)

theorem VAt.lt {w : World} {b off : Nat} {v : VC} (h : VAt w b off v) : b < w.heap.size := World.block_lt_of_cell? w ⟨b, off, none⟩ h.1
theorem VAt.keep {w w' : World} {b off : Nat} {v : VC} (h : VAt w b off v) (hb : w'.heap[b]? = w.heap[b]?) : VAt w' b off v := by
  have e : ∀ o, w'.cell? ⟨b, o, none⟩ = w.cell? ⟨b, o, none⟩ := fun o => World.cell?_of_block (w := w) (a := ⟨b, o, none⟩) hb
  exact ⟨(e _).trans h.1, (e _).trans h.2.1, (e _).trans h.2.2.1, (e _).trans h.2.2.2.1, (e _).trans h.2.2.2.2⟩
theorem VAt.step {w w' : World} {b off : Nat} {v : VC} (h : VAt w b off v) (hb : Below w.heap.size w w') : VAt w' b off v := h.keep (hb.block b h.lt)
theorem VAt.alloc {w : World} {b off : Nat} {v : VC} (h : VAt w b off v) (o : Obj) : VAt (w.alloc o) b off v := h.keep (Below.heap_alloc w o b h.lt)
theorem VAt.of_blk {w : World} {b : Nat} {t : TypeId} {v : VC} (h : Blk w b t v.arr) : VAt w b 0 v := by
  refine ⟨?_, ?_, ?_, ?_, ?_⟩ <;> rw [h.cell] <;> rfl

/-- five stores -/
abbrev setV (w : World) (b off : Nat) (v : VC) : World :=
  ((((w.setCell ⟨b, off, none⟩ (.int .i64 v.k)).setCell ⟨b, off + 1, none⟩ (.int .i64 v.n)).setCell ⟨b, off + 2, none⟩ (.string v.t)).setCell ⟨b, off + 3, none⟩ (.slice v.LA v.ln v.lc)).setCell ⟨b, off + 4, none⟩ (.slice v.DA v.dn v.dc)
theorem Blk.putV {w : World} {g : Nat} {t : TypeId} {u : VC} (h : Blk w g t u.arr) (v : VC) : Blk (setV w g 0 v) g t v.arr :=
  ((((h.set_ 0 _).set_ 1 _).set_ 2 _).set_ 3 _).set_ 4 _
theorem Blk.farV {w : World} {g : Nat} {t : TypeId} {cs : Array Value} (h : Blk w g t cs) {b : Nat} (hne : g ≠ b) (off : Nat) (v : VC) : Blk (setV w b off v) g t cs :=
  ((((h.far hne _).far hne _).far hne _).far hne _).far hne _
theorem below_setV {B : Nat} {a w : World} (h : Below B a w) {b : Nat} (hB : B ≤ b) (off : Nat) (v : VC) : Below B a (setV w b off v) :=
  ((((h.setCell hB _).setCell hB _).setCell hB _).setCell hB _).setCell hB _

theorem drop_of {α : Type} {l : List α} {i : Nat} {a : α} (h : l[i]? = some a) : l.drop i = a :: l.drop (i + 1) := by
  rw [List.drop_eq_getElem?_toList_append, h]; rfl
end Go.Proofs.YtfkapannahcjiaaGreatDoor
namespace Go.RowKit
theorem Below.step' {B : Nat} {W w1 w2 : World} (h : Below B W w1) (k : Below w1.heap.size w1 w2) (hB : B ≤ W.heap.size := by exact Nat.le_refl _) : Below B W w2 := h.trans (k.mono (Nat.le_trans hB h.size))
end Go.RowKit
namespace Go.Proofs.YtfkapannahcjiaaGreatDoor
open Go.RowKit

theorem addr_add (g off j : Nat) : (⟨g, off, none⟩ : Addr).add j = ⟨g, off + j, none⟩ := by
  unfold Addr.add
  split
  · rename_i h; subst h; rfl
  · rfl
/-- the cells of a block that was just made -/
theorem news_at (w : World) (t : TypeId) (l : List Value) : ∀ j u, l[j]? = some u → (w.alloc (.cells l.toArray t)).cell? ((⟨w.heap.size, 0, none⟩ : Addr).add j) = some u := by
  intro j u h
  rw [addr_add, Nat.zero_add, World.cell?_alloc_new]
  simpa using h

end Go.Proofs.YtfkapannahcjiaaGreatDoor


/- Values of the document database as trees, and what it means that five cells read as such a tree. -/
namespace Go.Proofs.YtfkapannahcjiaaGreatDoor
open Go.RowKit

mutual
inductive Val where
  | mk (k n : Int) (t : ByteArray) (l : List Val) (d : List Fld)
inductive Fld where
  | mk (s : ByteArray) (v : Val)
end
def Val.k : Val → Int | .mk k _ _ _ _ => k
def Val.n : Val → Int | .mk _ n _ _ _ => n
def Val.t : Val → ByteArray | .mk _ _ t _ _ => t
def Val.l : Val → List Val | .mk _ _ _ l _ => l
def Val.d : Val → List Fld | .mk _ _ _ _ d => d
def Fld.s : Fld → ByteArray | .mk s _ => s
def Fld.v : Fld → Val | .mk _ v => v
def Val.zero : Val := .mk 0 0 ByteArray.empty [] []

/-- induction over a value and its parts -/
theorem Val.ind {p : Val → Prop} (h : ∀ k n t l d, (∀ v ∈ l, p v) → (∀ f ∈ d, p f.v) → p (.mk k n t l d)) : ∀ v, p v := by
  intro v
  refine Val.rec (motive_1 := p) (motive_2 := fun f => p f.v) (motive_3 := fun l => ∀ v ∈ l, p v) (motive_4 := fun d => ∀ f ∈ d, p f.v) ?_ ?_ ?_ ?_ ?_ ?_ v
  · intro k n t l d hl hd
    exact h k n t l d hl hd
  · intro s v hv
    exact hv
  · intro v hv; simp at hv
  · intro x r hx hr v hv
    rcases List.mem_cons.1 hv with rfl | hv
    · exact hx
    · exact hr v hv
  · intro v hv; simp at hv
  · intro x r hx hr v hv
    rcases List.mem_cons.1 hv with rfl | hv
    · exact hx
    · exact hr v hv

/-- the form's reach for what comes in -/
def reach0 : Nat := 140737488351232
/-- what a slice may grow to -/
def reach : Nat := 140737488355328
theorem le_reach : reach0 ≤ reach := by decide

/-- no cell of the block is frozen -/
def Unf (w : World) (b : Nat) : Prop := ∀ i, w.frozen? ⟨b, i, none⟩ = false
/-- the block belongs to the footprint F; a footprint without block 0 has no frozen blocks -/
def Ft (F : Nat → Prop) (w : World) (b : Nat) : Prop := F b ∧ (¬ F 0 → Unf w b)
theorem Ft.top {w : World} {b : Nat} : Ft (fun _ => True) w b := ⟨trivial, fun h => absurd trivial h⟩
theorem Ft.keepG {F G : Nat → Prop} {w w' : World} {b : Nat} (h : Ft F w b) (hb : b < w.heap.size) (hk : ∀ b, F b → b < w.heap.size → G b ∧ w'.heap[b]? = w.heap[b]?) : Ft G w' b :=
  ⟨(hk b h.1 hb).1, fun hG i => (World.frozen?_of_block (w := w) (a := ⟨b, i, none⟩) (hk b h.1 hb).2).trans (h.2 (fun h0 => hG (hk 0 h0 (by omega)).1) i)⟩
mutual
/-- the five cells c read as a value; every block on the way fulfils F -/
def RV (F : Nat → Prop) (w : World) : VC → Val → Prop
  | c, .mk k n t l d => c.k = k ∧ c.n = n ∧ c.t = t ∧ t.size ≤ reach ∧
    c.ln = l.length ∧ c.ln ≤ c.lc ∧ c.ln * 80 ≤ reach ∧ (0 < c.ln → ∃ b off, c.LA = some ⟨b, off, none⟩ ∧ Ft F w b ∧ RLs F w b off l) ∧
    c.dn = d.length ∧ c.dn ≤ c.dc ∧ c.dn * 96 ≤ reach ∧ (0 < c.dn → ∃ b off, c.DA = some ⟨b, off, none⟩ ∧ Ft F w b ∧ RDs F w b off d)
def RLs (F : Nat → Prop) (w : World) : Nat → Nat → List Val → Prop
  | _, _, [] => True
  | b, off, x :: r => (∃ c, VAt w b off c ∧ RV F w c x) ∧ RLs F w b (off + 5) r
def RDs (F : Nat → Prop) (w : World) : Nat → Nat → List Fld → Prop
  | _, _, [] => True
  | b, off, f :: r => RF F w b off f ∧ RDs F w b (off + 6) r
def RF (F : Nat → Prop) (w : World) : Nat → Nat → Fld → Prop
  | b, off, .mk s x => w.cell? ⟨b, off, none⟩ = some (.string s) ∧ s.size ≤ reach ∧ ∃ c, VAt w b (off + 1) c ∧ RV F w c x
end

section
variable {F G : Nat → Prop} {w w' : World}

theorem RLs.at {l : List Val} : ∀ {b off : Nat}, RLs F w b off l → ∀ (i : Nat) (x : Val), l[i]? = some x → ∃ c, VAt w b (off + i * 5) c ∧ RV F w c x := by
  induction l with
  | nil => intro b off _ i x hi; simp at hi
  | cons y r ih =>
    intro b off h i x hi
    simp only [RLs] at h
    cases i with
    | zero =>
      simp at hi
      subst hi
      simpa using h.1
    | succ i =>
      obtain ⟨c, hc, hx⟩ := ih h.2 i x (by simpa using hi)
      exact ⟨c, by rw [show off + (i + 1) * 5 = off + 5 + i * 5 from by omega]; exact hc, hx⟩
theorem RLs.mk {l : List Val} : ∀ {b off : Nat}, (∀ (i : Nat) (x : Val), l[i]? = some x → ∃ c, VAt w b (off + i * 5) c ∧ RV F w c x) → RLs F w b off l := by
  induction l with
  | nil => intro b off _; simp only [RLs]
  | cons y r ih =>
    intro b off h
    simp only [RLs]
    refine ⟨by simpa using h 0 y rfl, ih fun i x hi => ?_⟩
    obtain ⟨c, hc, hx⟩ := h (i + 1) x (by simpa using hi)
    exact ⟨c, by rw [show off + 5 + i * 5 = off + (i + 1) * 5 from by omega]; exact hc, hx⟩
theorem RF.parts {b off : Nat} {f : Fld} (h : RF F w b off f) : w.cell? ⟨b, off, none⟩ = some (.string f.s) ∧ f.s.size ≤ reach ∧ ∃ c, VAt w b (off + 1) c ∧ RV F w c f.v := by
  cases f
  simp only [RF] at h
  exact h
theorem RF.mk {b off : Nat} {f : Fld} (h1 : w.cell? ⟨b, off, none⟩ = some (.string f.s)) (h2 : f.s.size ≤ reach) (h3 : ∃ c, VAt w b (off + 1) c ∧ RV F w c f.v) : RF F w b off f := by
  cases f
  simp only [RF]
  exact ⟨h1, h2, h3⟩
theorem RDs.at {l : List Fld} : ∀ {b off : Nat}, RDs F w b off l → ∀ (i : Nat) (x : Fld), l[i]? = some x → RF F w b (off + i * 6) x := by
  induction l with
  | nil => intro b off _ i x hi; simp at hi
  | cons y r ih =>
    intro b off h i x hi
    simp only [RDs] at h
    cases i with
    | zero =>
      simp at hi
      subst hi
      simpa using h.1
    | succ i =>
      have := ih h.2 i x (by simpa using hi)
      rw [show off + (i + 1) * 6 = off + 6 + i * 6 from by omega]
      exact this
theorem RDs.mk {l : List Fld} : ∀ {b off : Nat}, (∀ (i : Nat) (x : Fld), l[i]? = some x → RF F w b (off + i * 6) x) → RDs F w b off l := by
  induction l with
  | nil => intro b off _; simp only [RDs]
  | cons y r ih =>
    intro b off h
    simp only [RDs]
    refine ⟨by simpa using h 0 y rfl, ih fun i x hi => ?_⟩
    have := h (i + 1) x (by simpa using hi)
    rw [show off + 6 + i * 6 = off + (i + 1) * 6 from by omega]
    exact this

/-- what it is that five cells read as a value, element by element -/
structure RVs (F : Nat → Prop) (w : World) (c : VC) (x : Val) : Prop where
  k : c.k = x.k
  n : c.n = x.n
  t : c.t = x.t
  tsz : x.t.size ≤ reach
  ln : c.ln = x.l.length
  lc : c.ln ≤ c.lc
  lsz : c.ln * 80 ≤ reach
  la : 0 < c.ln → ∃ b off, c.LA = some ⟨b, off, none⟩ ∧ Ft F w b ∧ ∀ (i : Nat) (y : Val), x.l[i]? = some y → ∃ e, VAt w b (off + i * 5) e ∧ RV F w e y
  dn : c.dn = x.d.length
  dc : c.dn ≤ c.dc
  dsz : c.dn * 96 ≤ reach
  da : 0 < c.dn → ∃ b off, c.DA = some ⟨b, off, none⟩ ∧ Ft F w b ∧ ∀ (i : Nat) (f : Fld), x.d[i]? = some f → w.cell? ⟨b, off + i * 6, none⟩ = some (.string f.s) ∧ f.s.size ≤ reach ∧ ∃ e, VAt w b (off + i * 6 + 1) e ∧ RV F w e f.v
theorem RV.open {c : VC} {x : Val} (h : RV F w c x) : RVs F w c x := by
  cases x with
  | mk k n t l d =>
    simp only [RV] at h
    obtain ⟨h1, h2, h3, h4, h5, h6, h7, h8, h9, h10, h11, h12⟩ := h
    refine ⟨h1, h2, h3, h4, h5, h6, h7, fun h => ?_, h9, h10, h11, fun h => ?_⟩
    · obtain ⟨b, off, e, hF, hl⟩ := h8 h
      exact ⟨b, off, e, hF, fun i y hi => hl.at i y hi⟩
    · obtain ⟨b, off, e, hF, hl⟩ := h12 h
      exact ⟨b, off, e, hF, fun i f hi => (hl.at i f hi).parts⟩
theorem RVs.shut {c : VC} {x : Val} (h : RVs F w c x) : RV F w c x := by
  cases x with
  | mk k n t l d =>
    simp only [RV]
    refine ⟨h.k, h.n, h.t, h.tsz, h.ln, h.lc, h.lsz, fun h' => ?_, h.dn, h.dc, h.dsz, fun h' => ?_⟩
    · obtain ⟨b, off, e, hF, hl⟩ := h.la h'
      exact ⟨b, off, e, hF, RLs.mk hl⟩
    · obtain ⟨b, off, e, hF, hl⟩ := h.da h'
      exact ⟨b, off, e, hF, RDs.mk fun i f hi => RF.mk (hl i f hi).1 (hl i f hi).2.1 (hl i f hi).2.2⟩

theorem RV.keepG {x : Val} : ∀ {c : VC}, RV F w c x → (∀ b, F b → b < w.heap.size → G b ∧ w'.heap[b]? = w.heap[b]?) → RV G w' c x := by
  induction x using Val.ind with
  | h k n t l d ihl ihd =>
    intro c h hk
    have ho := h.open
    refine RVs.shut ⟨ho.k, ho.n, ho.t, ho.tsz, ho.ln, ho.lc, ho.lsz, fun h' => ?_, ho.dn, ho.dc, ho.dsz, fun h' => ?_⟩
    · obtain ⟨b, off, e, hF, hl⟩ := ho.la h'
      have hb : b < w.heap.size := by
        obtain ⟨y, hy⟩ : ∃ y, l[0]? = some y := ⟨_, List.getElem?_eq_getElem (by have := ho.ln; simp only [Val.l] at this; omega)⟩
        obtain ⟨e', he', _⟩ := hl 0 y hy
        exact he'.lt
      refine ⟨b, off, e, hF.keepG hb hk, fun i y hi => ?_⟩
      obtain ⟨e', he', hr⟩ := hl i y hi
      exact ⟨e', he'.keep (hk b hF.1 hb).2, ihl y (List.mem_of_getElem? hi) hr hk⟩
    · obtain ⟨b, off, e, hF, hl⟩ := ho.da h'
      have hb : b < w.heap.size := by
        obtain ⟨y, hy⟩ : ∃ y, d[0]? = some y := ⟨_, List.getElem?_eq_getElem (by have := ho.dn; simp only [Val.d] at this; omega)⟩
        obtain ⟨_, _, e', he', _⟩ := hl 0 y hy
        exact he'.lt
      refine ⟨b, off, e, hF.keepG hb hk, fun i f hi => ?_⟩
      obtain ⟨hs, hz, e', he', hr⟩ := hl i f hi
      exact ⟨(World.cell?_of_block (w := w) (a := ⟨b, off + i * 6, none⟩) (hk b hF.1 hb).2).trans hs, hz, e', he'.keep (hk b hF.1 hb).2, ihd f (List.mem_of_getElem? hi) hr hk⟩
theorem RV.mono {c : VC} {x : Val} (h : RV F w c x) (hk : ∀ b, F b → G b) : RV G w c x := h.keepG fun b hb _ => ⟨hk b hb, rfl⟩
theorem RV.keep {c : VC} {x : Val} (h : RV F w c x) (hk : ∀ b, F b → w'.heap[b]? = w.heap[b]?) : RV F w' c x := h.keepG fun b hb _ => ⟨hb, hk b hb⟩
theorem RV.lt {c : VC} {x : Val} (h : RV F w c x) : RV (fun b => F b ∧ b < w.heap.size) w c x := h.keepG fun _ hb hl => ⟨⟨hb, hl⟩, rfl⟩
theorem RV.step {c : VC} {x : Val} (h : RV F w c x) (hb : Below w.heap.size w w') : RV F w' c x := h.keepG fun b hF hl => ⟨hF, hb.block b hl⟩
theorem RV.alloc {c : VC} {x : Val} (h : RV F w c x) (o : Obj) : RV F (w.alloc o) c x := h.step ((Below.refl _ _).alloc (Nat.le_refl _) o)
theorem RV.drewN {c : VC} {x : Val} (h : RV F w c x) (n : Nat) : RV F (w.drewN n) c x := h.keep fun _ _ => rfl
theorem RV.zero : RV F w VC.zero Val.zero := by
  refine RVs.shut ⟨rfl, rfl, rfl, by decide, rfl, Nat.le_refl _, by decide, fun h => absurd h (by decide), rfl, Nat.le_refl _, by decide, fun h => absurd h (by decide)⟩
end

abbrev RW (w : World) (c : VC) (x : Val) : Prop := RV (fun _ => True) w c x

end Go.Proofs.YtfkapannahcjiaaGreatDoor


/- Values in plain words: parts, size, depth. -/
namespace Go.Proofs.YtfkapannahcjiaaGreatDoor

/-- the parts of a value -/
def Val.parts (x : Val) : List Val := if x.k = 6 then x.l else if x.k = 5 then x.d.map Fld.v else []

mutual
def Val.size : Val → Nat
  | .mk k _ _ l d => 1 + if k = 6 then sizeL l else if k = 5 then sizeD d else 0
def sizeL : List Val → Nat
  | [] => 0
  | x :: r => x.size + sizeL r
def sizeD : List Fld → Nat
  | [] => 0
  | f :: r => sizeF f + sizeD r
def sizeF : Fld → Nat
  | .mk _ v => v.size
end
mutual
def Val.height : Val → Nat
  | .mk k _ _ l d => 1 + if k = 6 then heightL l else if k = 5 then heightD d else 0
def heightL : List Val → Nat
  | [] => 0
  | x :: r => max x.height (heightL r)
def heightD : List Fld → Nat
  | [] => 0
  | f :: r => max (heightF f) (heightD r)
def heightF : Fld → Nat
  | .mk _ v => v.height
end
theorem sizeF_eq (f : Fld) : sizeF f = f.v.size := by cases f; simp [sizeF, Fld.v]
theorem heightF_eq (f : Fld) : heightF f = f.v.height := by cases f; simp [heightF, Fld.v]
theorem sizeD_eq (d : List Fld) : sizeD d = sizeL (d.map Fld.v) := by
  induction d with
  | nil => simp [sizeD, sizeL]
  | cons f r ih => simp [sizeD, sizeL, ih, sizeF_eq]
theorem heightD_eq (d : List Fld) : heightD d = heightL (d.map Fld.v) := by
  induction d with
  | nil => simp [heightD, heightL]
  | cons f r ih => simp [heightD, heightL, ih, heightF_eq]
theorem size_parts (x : Val) : x.size = 1 + sizeL x.parts := by
  cases x with
  | mk k n t l d =>
    show Val.size (.mk k n t l d) = 1 + sizeL (if k = 6 then l else if k = 5 then d.map Fld.v else [])
    rw [Val.size]
    by_cases h6 : k = 6
    · rw [if_pos h6, if_pos h6]
    · rw [if_neg h6, if_neg h6]
      by_cases h5 : k = 5
      · rw [if_pos h5, if_pos h5, sizeD_eq]
      · rw [if_neg h5, if_neg h5, sizeL]
theorem height_parts (x : Val) : x.height = 1 + heightL x.parts := by
  cases x with
  | mk k n t l d =>
    show Val.height (.mk k n t l d) = 1 + heightL (if k = 6 then l else if k = 5 then d.map Fld.v else [])
    rw [Val.height]
    by_cases h6 : k = 6
    · rw [if_pos h6, if_pos h6]
    · rw [if_neg h6, if_neg h6]
      by_cases h5 : k = 5
      · rw [if_pos h5, if_pos h5, heightD_eq]
      · rw [if_neg h5, if_neg h5, heightL]
theorem size_pos (x : Val) : 1 ≤ x.size := by rw [size_parts]; omega
theorem height_pos (x : Val) : 1 ≤ x.height := by rw [height_parts]; omega
theorem sizeL_append (l m : List Val) : sizeL (l ++ m) = sizeL l + sizeL m := by
  induction l with
  | nil => simp [sizeL]
  | cons x r ih => simp [sizeL, ih]; omega
theorem heightL_append (l m : List Val) : heightL (l ++ m) = max (heightL l) (heightL m) := by
  induction l with
  | nil => simp [heightL]
  | cons x r ih => simp only [List.cons_append, heightL, ih]; omega
theorem take_snoc' {α : Type} {l : List α} {i : Nat} {y : α} (h : l[i]? = some y) : l.take (i + 1) = l.take i ++ [y] := by
  rw [List.take_add_one, h]; rfl
theorem sizeL_snoc {l : List Val} {i : Nat} {y : Val} (h : l[i]? = some y) : sizeL (l.take (i + 1)) = sizeL (l.take i) + y.size := by
  rw [take_snoc' h, sizeL_append]; simp [sizeL]
theorem heightL_snoc {l : List Val} {i : Nat} {y : Val} (h : l[i]? = some y) : heightL (l.take (i + 1)) = max (heightL (l.take i)) y.height := by
  rw [take_snoc' h, heightL_append]; simp [heightL]
theorem sizeL_take (l : List Val) (i : Nat) : sizeL (l.take i) ≤ sizeL l := by
  conv => rhs; rw [← List.take_append_drop i l, sizeL_append]
  omega
theorem heightL_take (l : List Val) (i : Nat) : heightL (l.take i) ≤ heightL l := by
  conv => rhs; rw [← List.take_append_drop i l, heightL_append]
  omega
/-- the number of values, at most a number -/
def nodesI (x : Val) (most : Int) : Int := min (x.size : Int) most
/-- the number of levels, at most a number -/
def depthI (x : Val) (most : Int) : Int := min (x.height : Int) most

end Go.Proofs.YtfkapannahcjiaaGreatDoor


/- The order of values in plain words. -/
namespace Go.Proofs.YtfkapannahcjiaaGreatDoor

abbrev cmpI (x y : Int) : Int := Lib.compareInt x y
def cmpB (a b : ByteArray) : Int := Lib.compareBytes a.data.toList b.data.toList
mutual
def cmpV : Val → Val → Int
  | .mk k n t l d, y =>
    if k ≠ y.k then cmpI k y.k
    else if k = 3 ∨ k = 9 ∨ k = 10 then cmpI n y.n
    else if k = 4 ∨ k = 7 ∨ k = 8 then cmpB t y.t
    else if k = 6 then cmpL l y.l
    else if k = 5 then cmpD d y.d
    else 0
def cmpL : List Val → List Val → Int
  | [], m => if m.isEmpty then 0 else -1
  | _ :: _, [] => 1
  | x :: r, y :: s => if cmpV x y ≠ 0 then cmpV x y else cmpL r s
def cmpD : List Fld → List Fld → Int
  | [], m => if m.isEmpty then 0 else -1
  | _ :: _, [] => 1
  | x :: r, y :: s => if cmpF x y ≠ 0 then cmpF x y else cmpD r s
def cmpF : Fld → Fld → Int
  | .mk s v, g => if cmpB s g.s ≠ 0 then cmpB s g.s else cmpV v g.v
end
theorem cmpF_eq (f g : Fld) : cmpF f g = if cmpB f.s g.s ≠ 0 then cmpB f.s g.s else cmpV f.v g.v := by cases f; rw [cmpF]; rfl
theorem cmpV_eq (x y : Val) : cmpV x y = if x.k ≠ y.k then cmpI x.k y.k else if x.k = 3 ∨ x.k = 9 ∨ x.k = 10 then cmpI x.n y.n else if x.k = 4 ∨ x.k = 7 ∨ x.k = 8 then cmpB x.t y.t
    else if x.k = 6 then cmpL x.l y.l else if x.k = 5 then cmpD x.d y.d else 0 := by
  cases x
  rw [cmpV]
  rfl
theorem cmpV_kind {x y : Val} (h : x.k ≠ y.k) : cmpV x y = cmpI x.k y.k := by rw [cmpV_eq, if_pos h]
theorem cmpV_int {x y : Val} (h : x.k = y.k) (h' : x.k = 3 ∨ x.k = 9 ∨ x.k = 10) : cmpV x y = cmpI x.n y.n := by rw [cmpV_eq, if_neg (by simpa using h), if_pos h']
theorem cmpV_text {x y : Val} (h : x.k = y.k) (h' : x.k = 4 ∨ x.k = 7 ∨ x.k = 8) : cmpV x y = cmpB x.t y.t := by rw [cmpV_eq, if_neg (by simpa using h), if_neg (by omega), if_pos h']
theorem cmpV_list {x y : Val} (h : x.k = y.k) (h' : x.k = 6) : cmpV x y = cmpL x.l y.l := by rw [cmpV_eq, if_neg (by simpa using h), if_neg (by omega), if_neg (by omega), if_pos h']
theorem cmpV_doc {x y : Val} (h : x.k = y.k) (h' : x.k = 5) : cmpV x y = cmpD x.d y.d := by rw [cmpV_eq, if_neg (by simpa using h), if_neg (by omega), if_neg (by omega), if_neg (by omega), if_pos h']
theorem cmpV_other {x y : Val} (h : x.k = y.k) (h3 : x.k ≠ 3) (h9 : x.k ≠ 9) (h10 : x.k ≠ 10) (h4 : x.k ≠ 4) (h7 : x.k ≠ 7) (h8 : x.k ≠ 8) (h6 : x.k ≠ 6) (h5 : x.k ≠ 5) : cmpV x y = 0 := by
  rw [cmpV_eq, if_neg (by simpa using h), if_neg (by omega), if_neg (by omega), if_neg h6, if_neg h5]
theorem cmpI_nat (a b : Nat) : cmpI (a : Int) (b : Int) = if a < b then -1 else if b < a then 1 else 0 := by
  unfold cmpI Lib.compareInt
  rcases Nat.lt_trichotomy a b with h | h | h
  · rw [if_pos (by omega), if_pos h]
  · rw [if_neg (by omega), if_neg (by omega), if_neg (by omega), if_neg (by omega)]
  · rw [if_neg (by omega), if_pos (by omega), if_neg (by omega), if_pos h]
theorem cmpL_end {l m : List Val} {i : Nat} (h1 : i ≤ l.length) (h2 : i ≤ m.length) (h : l.length ≤ i ∨ m.length ≤ i) : cmpL (l.drop i) (m.drop i) = cmpI (l.length : Int) (m.length : Int) := by
  rw [cmpI_nat]
  by_cases hl : l.length ≤ i
  · rw [List.drop_of_length_le hl, cmpL]
    by_cases hm : m.length ≤ i
    · rw [List.drop_of_length_le hm, List.isEmpty_nil, if_pos (Eq.refl true), if_neg (by omega), if_neg (by omega)]
    · rw [if_neg (by simp; omega), if_pos (by omega)]
  · have hm : m.length ≤ i := by omega
    rw [List.drop_of_length_le hm, List.drop_eq_getElem_cons (by omega : i < l.length), cmpL, if_neg (by omega), if_pos (by omega)]
theorem cmpL_at {l m : List Val} {i : Nat} {x y : Val} (hx : l[i]? = some x) (hy : m[i]? = some y) : cmpL (l.drop i) (m.drop i) = if cmpV x y ≠ 0 then cmpV x y else cmpL (l.drop (i + 1)) (m.drop (i + 1)) := by
  rw [drop_of hx, drop_of hy, cmpL]
theorem cmpD_end {l m : List Fld} {i : Nat} (h1 : i ≤ l.length) (h2 : i ≤ m.length) (h : l.length ≤ i ∨ m.length ≤ i) : cmpD (l.drop i) (m.drop i) = cmpI (l.length : Int) (m.length : Int) := by
  rw [cmpI_nat]
  by_cases hl : l.length ≤ i
  · rw [List.drop_of_length_le hl, cmpD]
    by_cases hm : m.length ≤ i
    · rw [List.drop_of_length_le hm, List.isEmpty_nil, if_pos (Eq.refl true), if_neg (by omega), if_neg (by omega)]
    · rw [if_neg (by simp; omega), if_pos (by omega)]
  · have hm : m.length ≤ i := by omega
    rw [List.drop_of_length_le hm, List.drop_eq_getElem_cons (by omega : i < l.length), cmpD, if_neg (by omega), if_pos (by omega)]
theorem cmpD_at {l m : List Fld} {i : Nat} {x y : Fld} (hx : l[i]? = some x) (hy : m[i]? = some y) : cmpD (l.drop i) (m.drop i) = if cmpB x.s y.s ≠ 0 then cmpB x.s y.s else if cmpV x.v y.v ≠ 0 then cmpV x.v y.v else cmpD (l.drop (i + 1)) (m.drop (i + 1)) := by
  rw [drop_of hx, drop_of hy, cmpD, cmpF_eq]
  by_cases hb : cmpB x.s y.s = 0
  · simp [hb]
  · simp [hb]
/-- the ways of a comparison of equal kinds -/
theorem kind_ways (k : Int) : (k = 3 ∨ k = 9 ∨ k = 10) ∨ (k = 4 ∨ k = 7 ∨ k = 8) ∨ k = 6 ∨ k = 5 ∨ (k ≠ 3 ∧ k ≠ 9 ∧ k ≠ 10 ∧ k ≠ 4 ∧ k ≠ 7 ∧ k ≠ 8 ∧ k ≠ 6 ∧ k ≠ 5) := by omega

end Go.Proofs.YtfkapannahcjiaaGreatDoor


/- A slice that reads as a list; append onto a row of the call's own (the guide's lemmas, turned to this claim). -/
namespace Go.Proofs.YtfkapannahcjiaaGreatDoor
open Go.RowKit

theorem block_of_add (a : Addr) (n : Nat) : (a.add n).block = a.block := by unfold Addr.add; split <;> rfl
def Reads (w : World) (B size : Nat) (A : Option Addr) (n : Nat) (xs : List Value) : Prop :=
  xs.length = n * size ∧ (0 < n → ∃ ad, A = some ad ∧ ad.block < B ∧ ∀ j u, xs[j]? = some u → w.cell? (ad.add j) = some u)

section
variable {w w' : World} {B B' size n : Nat} {A : Option Addr} {xs : List Value}
theorem Reads.at_ {k : Nat} (h : Reads w B 1 A n xs) (hk : k < n) : ∃ ad u, A = some ad ∧ ad.block < B ∧ xs[k]? = some u ∧ w.cell? (ad.add k) = some u := by
  obtain ⟨ad, e, hb, hc⟩ := h.2 (by omega)
  have hl : k < xs.length := by have := h.1; omega
  exact ⟨ad, xs[k], e, hb, List.getElem?_eq_getElem hl, hc k _ (List.getElem?_eq_getElem hl)⟩
theorem Reads.keep (h : Reads w B size A n xs) (hk : ∀ p : Addr, p.block < B → w'.cell? p = w.cell? p) : Reads w' B size A n xs :=
  ⟨h.1, fun hn => by
    obtain ⟨ad, e, hb, hc⟩ := h.2 hn
    exact ⟨ad, e, hb, fun j u hu => (hk _ (by rw [block_of_add]; exact hb)).trans (hc j u hu)⟩⟩
theorem Reads.below (h : Reads w B size A n xs) (hb : Below B w w') : Reads w' B size A n xs := h.keep fun _ hp => hb.cell hp
theorem Reads.drew (h : Reads w B size A n xs) : Reads w.drew B size A n xs := h
theorem Reads.drewN (h : Reads w B size A n xs) (k : Nat) : Reads (w.drewN k) B size A n xs := h
theorem Reads.alloc (h : Reads w B size A n xs) (hB : B ≤ w.heap.size) (o : Obj) : Reads (w.alloc o) B size A n xs := h.keep fun p hp => World.cell?_alloc_lt w o p (by omega)
theorem Reads.setCell (h : Reads w B size A n xs) {p : Addr} (hB : B ≤ p.block) (u : Value) : Reads (w.setCell p u) B size A n xs :=
  h.keep fun q hq => World.cell?_setCell_other w p q u (fun e => by subst e; omega)
theorem Reads.grown (h : Reads w B size A n xs) {row : Option Nat} (hg : w.grownBy w' row) (hB : B ≤ w.heap.size) (hr : ∀ g, row = some g → B ≤ g) : Reads w' B size A n xs :=
  h.keep fun p hp => World.cell?_of_block (hg.block p.block (by omega) (fun e => by have := hr _ e.symm; omega))
theorem Reads.of_own {base : Nat} {e : TypeId} {c : Nat} (h : w.ownsRow base e size (.slice A n c) n xs) : Reads w w.heap.size size A n xs := by
  refine ⟨h.1, fun hn => ?_⟩
  obtain ⟨g, cap, hv, _, hlt⟩ := h.form hn
  have hA : A = some ⟨g, 0, none⟩ := by injection hv
  subst hA
  exact ⟨_, rfl, hlt, h.cells (g := g) rfl⟩
end

section
variable {P : Program} (w : World)

theorem run_append_of_nil (base : Nat) (t ty e : TypeId) (i : TypeInfo) (size : Nat) (ht : P.underlying t = some (.slice e)) (hi : P.info? e = some i)
    (v : Value) (n : Nat) (xs : List Value) (hown : w.ownsRow base e size v n xs) (c : Nat) : (Builtin.append_ #[t, t] ty #[v, .slice none 0 c]).run P w = .ok v w := by
  rcases hown.2 with ⟨rfl, rfl⟩ | ⟨g, cap, cur, rfl, _, _, hnc, _⟩
  · simp [Builtin.append_, run_underlying ht, sizeOf, typeInfo, hi, Builtin.lenOf, Builtin.firstCells]
  · simp [Builtin.append_, run_underlying ht, sizeOf, typeInfo, hi, Builtin.lenOf, Builtin.firstCells, hnc, storeCells]

theorem run_append_any (base : Nat) (t ty e : TypeId) (i : TypeInfo) (z : Value) (size bytes : Nat) (ht : P.underlying t = some (.slice e)) (hi : P.info? e = some i) (hz : i.zero = some z)
    (hsize : i.size = size) (hby : i.bytes = bytes) (hzs : z.cells.size = size) (hsz : 0 < size)
    (v : Value) (n : Nat) (xs : List Value) (hown : w.ownsRow base e size v n xs)
    (B : Nat) (A : Option Addr) (m c : Nat) (news : List Value) (hr : Reads w B size A m news) (h1 : ∀ u ∈ news, u.oneCell' = true)
    (h63 : n + m ≤ maxLen) (hbytes : (n + m) * bytes ≤ 140737488355328) (hbase : base ≤ w.heap.size) :
    ∃ v' w', (Builtin.append_ #[t, t] ty #[v, .slice A m c]).run P w = .ok v' w' ∧ w'.ownsRow base e size v' (n + m) (xs ++ news) ∧ w.grownBy w' v.ownBlock ∧
      (v'.ownBlock = v.ownBlock ∨ v'.ownBlock = some w.heap.size) := by
  rcases A with _ | ad
  · have hm : m = 0 := by
      rcases Nat.eq_zero_or_pos m with h0 | h0
      · exact h0
      · obtain ⟨ad, h, _⟩ := hr.2 h0
        cases h
    subst hm
    have hn : news = [] := List.eq_nil_of_length_eq_zero (by simpa using hr.1)
    subst hn
    exact ⟨v, w, run_append_of_nil w base t ty e i size ht hi v n xs hown c, by simpa using hown, World.grownBy.refl w _, .inl rfl⟩
  · have hcells : ∀ j u, news[j]? = some u → w.cell? (ad.add j) = some u := by
      intro j u hu
      rcases Nat.eq_zero_or_pos m with h0 | h0
      · subst h0
        have hn : news = [] := List.eq_nil_of_length_eq_zero (by simpa using hr.1)
        subst hn
        simp at hu
      · obtain ⟨ad', h, _, hc⟩ := hr.2 h0
        injection h with h
        subst h
        exact hc j u hu
    obtain ⟨v', w', hrun, h2, h3, _, h5⟩ := run_append_own_at (P := P) w base t ty e i z size bytes ht hi hz hsize hby hzs hsz v n xs hown ad m c news hr.1 hcells h1 h63 hbytes hbase
    exact ⟨v', w', hrun, h2, h3, h5⟩

theorem wp_append_any {o : Oper} {a : Act} {K : Act → World → Prop} {Q : Exit → Act → World → Prop} (s x : Operand) (t : TypeId)
    (ho : o.op = .call { callee := .builtin .append, args := #[s, x], argTypes := #[t, t] })
    (base : Nat) (e : TypeId) (i : TypeInfo) (z : Value) (size bytes : Nat) (ht : P.underlying t = some (.slice e)) (hi : P.info? e = some i) (hz : i.zero = some z)
    (hsize : i.size = size) (hby : i.bytes = bytes) (hzs : z.cells.size = size) (hsz : 0 < size)
    (v : Value) (n : Nat) (xs : List Value) (hs : a.eval s = v) (hown : w.ownsRow base e size v n xs)
    (B : Nat) (A : Option Addr) (m c : Nat) (news : List Value) (hx : a.eval x = .slice A m c) (hr : Reads w B size A m news) (h1 : ∀ u ∈ news, u.oneCell' = true)
    (h63 : n + m ≤ maxLen) (hbytes : (n + m) * bytes ≤ 140737488355328) (hbase : base ≤ w.heap.size)
    (h : ∀ v' w', w'.ownsRow base e size v' (n + m) (xs ++ news) → w.grownBy w' v.ownBlock → (v'.ownBlock = v.ownBlock ∨ v'.ownBlock = some w.heap.size) → K (a.put o.dst v') w') : o.wp P a w K Q := by
  obtain ⟨v', w', hrun, h2, h3, h4⟩ := run_append_any (P := P) w base t o.type e i z size bytes ht hi hz hsize hby hzs hsz v n xs hown B A m c news hr h1 h63 hbytes hbase
  unfold Oper.wp execOp
  simp only [ho, resolve, invoke, builtin, Sem.run_bind, Sem.run_pure, Result.andThen_ok, List.map_toArray, List.map_cons, List.map_nil, hs, hx, hrun]
  exact h v' w' h2 h3 h4

theorem wpList_append_any {ops : Array Oper} {rest : List Oper} {o : Oper} {a : Act} {Q : Exit → Act → World → Prop} (hgd : o.guard = none) (s x : Operand) (t : TypeId)
    (ho : o.op = .call { callee := .builtin .append, args := #[s, x], argTypes := #[t, t] })
    (base : Nat) (e : TypeId) (i : TypeInfo) (z : Value) (size bytes : Nat) (ht : P.underlying t = some (.slice e)) (hi : P.info? e = some i) (hz : i.zero = some z)
    (hsize : i.size = size) (hby : i.bytes = bytes) (hzs : z.cells.size = size) (hsz : 0 < size)
    (v : Value) (n : Nat) (xs : List Value) (hs : a.eval s = v) (hown : w.ownsRow base e size v n xs)
    (B : Nat) (A : Option Addr) (m c : Nat) (news : List Value) (hx : a.eval x = .slice A m c) (hr : Reads w B size A m news) (h1 : ∀ u ∈ news, u.oneCell' = true)
    (h63 : n + m ≤ maxLen) (hbytes : (n + m) * bytes ≤ 140737488355328) (hbase : base ≤ w.heap.size)
    (h : ∀ v' w', w'.ownsRow base e size v' (n + m) (xs ++ news) → w.grownBy w' v.ownBlock → (v'.ownBlock = v.ownBlock ∨ v'.ownBlock = some w.heap.size) → wpList P ops Q rest (a.put o.dst v') w') : wpList P ops Q (o :: rest) a w :=
  wpList_plain hgd fun _ hK => wp_append_any w s x t ho base e i z size bytes ht hi hz hsize hby hzs hsz v n xs hs hown B A m c news hx hr h1 h63 hbytes hbase fun v' w' h2 h3 h4 => hK _ _ (h v' w' h2 h3 h4)

theorem step_append_any {ops : Array Oper} {o : Oper} {a : Act} {K : Act → World → Prop} {Q : Exit → Act → World → Prop} {E : Prop} (hgd : o.guard = none) (s x : Operand) (t : TypeId)
    (ho : o.op = .call { callee := .builtin .append, args := #[s, x], argTypes := #[t, t] })
    (base : Nat) (e : TypeId) (i : TypeInfo) (z : Value) (size bytes : Nat) (ht : P.underlying t = some (.slice e)) (hi : P.info? e = some i) (hz : i.zero = some z)
    (hsize : i.size = size) (hby : i.bytes = bytes) (hzs : z.cells.size = size) (hsz : 0 < size)
    (v : Value) (n : Nat) (xs : List Value) (hs : a.eval s = v) (hown : w.ownsRow base e size v n xs)
    (B : Nat) (A : Option Addr) (m c : Nat) (news : List Value) (hx : a.eval x = .slice A m c) (hr : Reads w B size A m news) (h1 : ∀ u ∈ news, u.oneCell' = true)
    (h63 : n + m ≤ maxLen) (hbytes : (n + m) * bytes ≤ 140737488355328) (hbase : base ≤ w.heap.size)
    (h : ∀ v' w', w'.ownsRow base e size v' (n + m) (xs ++ news) → w.grownBy w' v.ownBlock → (v'.ownBlock = v.ownBlock ∨ v'.ownBlock = some w.heap.size) → K (a.put o.dst v') w') :
    if Region.wanted o (yielded ops a.tmps) = true then Oper.wp P o a w K Q else E := by
  have hw : Region.wanted o (yielded ops a.tmps) = true := by simp [Region.wanted, hgd]
  rw [if_pos hw]
  exact wp_append_any w s x t ho base e i z size bytes ht hi hz hsize hby hzs hsz v n xs hs hown B A m c news hx hr h1 h63 hbytes hbase h
end

end Go.Proofs.YtfkapannahcjiaaGreatDoor


/- A drawn region whose head reads and calls functions that only make memory, and whose tail (a store, an append) stands in one order. (The guide's two theorems, joined.) -/
namespace Go
section
variable {P : Program} {ops : Array Oper} {md : Region.Mode} {C : World → Prop}

def wpAnyQL (P : Program) (md : Region.Mode) (ops : Array Oper) (C : World → Prop) (n : Nat) (L : Array Bool → Act → Prop) : Nat → Array Bool → Act → Prop
  | 0, listed, a => L listed a
  | f + 1, listed, a =>
    Region.ready md ops listed ≠ [] ∧ ∀ i ∈ Region.ready md ops listed, i < n ∧ qOp P ops C i (wpAnyQL P md ops C n L f (listed.setIfInBounds i true)) a

theorem wpAny_of_headQ {n g : Nat} {L : Array Bool → Act → Prop} {Q' : Exit → Act → World → Prop} (hL : ∀ listed a w, C w → L listed a → wpAny P md ops Q' g listed a w) :
    ∀ (f : Nat) (listed : Array Bool) (a : Act) (w : World), C w → wpAnyQL P md ops C n L f listed a → wpAny P md ops Q' (f + g) listed a w
  | 0, listed, a, w, hw, h => by rw [Nat.zero_add]; exact hL _ _ _ hw h
  | f + 1, listed, a, w, hw, h => by
    rw [show f + 1 + g = (f + g) + 1 by omega]
    exact ⟨fun h0 => absurd h0 h.1, fun i hi => wpOp_of_qOp hw (fun a' w' hw' h' => wpAny_of_headQ hL f _ a' w' hw' h') (h.2 i hi).2⟩

theorem wpAnyQL_first {n i : Nat} {oi : Oper} {v : Value} {L : Array Bool → Act → Prop} (hi : ops[i]? = some oi) (hsel : ∀ (j : Nat) (o : Oper) cs b, ops[j]? = some o → o.op ≠ .select cs b)
    (hs : Region.sinkB md ops n = true) (hc : Region.chainB md ops n = true) (hn : n < ops.size) (hin : i < n)
    (hdone : ∀ listed a, L listed a → ∀ j ∈ Region.ready md ops listed, n ≤ j) :
    ∀ (f : Nat) (listed : Array Bool) (a : Act), HeadInv md ops n listed →
      (∀ j oj, ops[j]? = some oj → j ≠ i → listed.getD j true = false → (∀ e ∈ oj.after, Region.binds md e = true → e.on ≠ i) → oi.apart ops oj = true) →
      i ∈ Region.ready md ops listed → YieldsIn P ops C oi v a →
      wpAnyQL P md ops C n L f (listed.setIfInBounds i true) (a.put oi.dst v) → wpAnyQL P md ops C n L (f + 1) listed a := by
  intro f
  induction f with
  | zero =>
    intro listed a inv _ hr hy H
    have hun := (mem_ready.1 hr).1
    refine ⟨fun h => (by rw [h] at hr; cases hr), fun j hj => ?_⟩
    have hjn : j < n := by
      rcases Nat.lt_or_ge j n with h | h
      · exact h
      · exact absurd hj (tail_waits hs hc hn inv _ i rfl hin hun j h)
    refine ⟨hjn, ?_⟩
    by_cases hji : j = i
    · subst hji; exact hy.qOp hi H
    · have := hdone _ _ H j (ready_mono hj hji)
      omega
  | succ f ih =>
    intro listed a inv hfree hr hy H
    have hun := (mem_ready.1 hr).1
    refine ⟨fun h => (by rw [h] at hr; cases hr), fun j hj => ?_⟩
    have hjn : j < n := by
      rcases Nat.lt_or_ge j n with h | h
      · exact h
      · exact absurd hj (tail_waits hs hc hn inv _ i rfl hin hun j h)
    refine ⟨hjn, ?_⟩
    by_cases hji : j = i
    · subst hji; exact hy.qOp hi H
    · have h1 := (H.2 j (ready_mono hj hji)).2
      obtain ⟨hjun, oj, hoj, hall⟩ := mem_ready.1 hj
      have hnot : ∀ e ∈ oj.after, Region.binds md e = true → e.on ≠ i := fun e he hb heq => by
        have h1 := hall e he hb
        rw [heq, getD_both hun] at h1
        cases h1
      have h2 := qOp_put hoj (hfree j oj hoj hji hjun hnot) (fun cs b => hsel i oi cs b hi) (fun cs b => hsel j oj cs b hoj) hy h1
      have hfree' : ∀ k ok, ops[k]? = some ok → k ≠ i → (listed.setIfInBounds j true).getD k true = false →
          (∀ e ∈ ok.after, Region.binds md e = true → e.on ≠ i) → oi.apart ops ok = true := fun k ok hk hki hun hno => by
        refine hfree k ok hk hki ?_ hno
        by_cases hjk : j = k
        · subst hjk; exact hjun
        · rw [getD_set_ne true hjk] at hun; exact hun
      refine qOp_mono (fun a' h3 => ih (listed.setIfInBounds j true) a' (inv.set hj hjn) hfree' (ready_mono hr (Ne.symm hji)) h3.1 ?_) h2
      rw [Array.setIfInBounds_comm _ _ hji]
      exact h3.2

theorem wpAnyQL_lex {n g : Nat} {Lq : Act → Prop} (hsel : Region.noSelect ops = true) (hs : Region.sinkB md ops n = true) (hc : Region.chainB md ops n = true) (hn : n < ops.size) :
    ∀ (l : List Oper) (k : Nat) (listed : Array Bool) (a : Act), (∀ j, j < l.length → l[j]? = ops[k + j]?) → k + l.length = n → HeadInv md ops n listed →
    Region.lexHead md ops g l.length k listed = true → wpQuiet P ops C Lq l a →
    wpAnyQL P md ops C n (fun listed' a' => Region.seqB md ops g n listed' = true ∧ Lq a') l.length listed a
  | [], k, listed, a, _, hk, _, hB, h => by
    have : k = n := by simpa using hk
    subst this
    exact ⟨by simpa [Region.lexHead] using hB, h⟩
  | o :: l, k, listed, a, hl, hk, inv, hB, h => by
    have h0 : ops[k]? = some o := by simpa using (hl 0 (by simp)).symm
    simp only [List.length_cons, Region.lexHead, Bool.and_eq_true] at hB
    obtain ⟨⟨hr, hf⟩, hB'⟩ := hB
    have hkn : k < n := by simp only [List.length_cons] at hk; omega
    have hr' : k ∈ Region.ready md ops listed := by simpa using hr
    have hst : qOp P ops C k (wpQuiet P ops C Lq l) a := by unfold qOp; simp only [h0]; exact h
    obtain ⟨v, hy, hK⟩ := yieldsIn_of_qOp h0 hst
    exact wpAnyQL_first h0 (Region.noSelect_spec hsel) hs hc hn hkn (fun listed' a' hL => seqB_ready hL.1) l.length listed a inv (Region.free_spec h0 hf) hr' hy
      (wpAnyQL_lex hsel hs hc hn l (k + 1) _ _ (fun j hj => by have := hl (j + 1) (by simp; omega); simpa [Nat.add_assoc, Nat.add_comm 1 j] using this) (by simp only [List.length_cons] at hk; omega) (inv.set hr' hkn) hB' hK)

theorem wp_region_quiet_tail {id : Nat} {Q : Exit → Act → World → Prop} {a : Act} {w : World} {l : List Oper} (n : Nat) (hm : P.follows .mixedOrders = true) (hB : Region.lexTailB .any l.toArray n = true)
    (hC : C { w with drawn := w.drawn + 1 })
    (h : wpQuiet P l.toArray C (fun a' => ∀ w', C w' → wpList P l.toArray Q (l.drop n) a' w') (l.take n) a) : (Code.region id l.toArray true).wp P Q a w := by
  simp only [Region.lexTailB, Bool.and_eq_true, decide_eq_true_eq] at hB
  obtain ⟨⟨⟨⟨hsel, hn⟩, hs⟩, hc⟩, hlex⟩ := hB
  have hn' : n < l.length := by simpa using hn
  have htl : (l.take n).length = n := by simp; omega
  have hdl : (l.drop n).length = l.toArray.size - n := by simp
  have inv0 : HeadInv .any l.toArray n (Array.replicate l.toArray.size false) :=
    ⟨by simp, fun j oj _ hl => (by rw [getD_replicate_false] at hl; cases hl), fun t _ ht => getD_in (by simpa using ht) (getD_replicate_false _ _)⟩
  have H := wpAnyQL_lex (md := .any) (g := l.toArray.size - n) hsel hs hc hn (l.take n) 0 _ a (fun j hj => by
    have hj' : j < n := by rw [htl] at hj; exact hj
    simp [hj']) (by simpa using htl) inv0 (by rw [htl]; exact hlex) h
  refine wp_region_any hm ?_
  have := wpAny_of_headQ (Q' := Q) (g := l.toArray.size - n) (fun listed a' w' hw' hL => by
    have := wpAny_of_seq (md := .any) (Q' := Q) (l.drop n) n listed a' w' (fun j => by simp [List.getElem?_drop]) (by rw [hdl]; exact hL.1) (hL.2 w' hw')
    rwa [hdl] at this) _ _ _ _ hC H
  rw [htl, show n + (l.toArray.size - n) = l.toArray.size by omega] at this
  exact this
end
end Go
namespace Go.Proofs.YtfkapannahcjiaaGreatDoor
open Go.RowKit

/-- the class 'reached from w by making memory alone', with a tail -/
theorem wp_region_bw_tail {P : Program} {id : Nat} {Q : Exit → Act → World → Prop} {a : Act} {w : World} {l : List Oper} (n : Nat) (hm : P.follows .mixedOrders = true) (hB : Region.lexTailB .any l.toArray n = true)
    (h : wpQuiet P l.toArray (fun w' => ∃ k : BW w, w' = k.val) (fun a' => ∀ w', (∃ k : BW w, w' = k.val) → wpList P l.toArray Q (l.drop n) a' w') (l.take n) a) : (Code.region id l.toArray true).wp P Q a w :=
  wp_region_quiet_tail (C := fun w' => ∃ k : BW w, w' = k.val) n hm hB ⟨⟨w.drew, (Below.refl _ _).drew⟩, rfl⟩ h

/-- nothing has changed but block g, and new memory -/
structure But (g : Nat) (w w' : World) : Prop where
  os : w'.os = w.os
  tape : w'.tape = w.tape
  output : w'.output = w.output
  size : w.heap.size ≤ w'.heap.size
  block : ∀ k, k < w.heap.size → k ≠ g → w'.heap[k]? = w.heap[k]?
section
variable {g : Nat} {w w1 w2 : World}
theorem But.refl : But g w w := ⟨rfl, rfl, rfl, Nat.le_refl _, fun _ _ _ => rfl⟩
theorem But.trans (h : But g w w1) (k : But g w1 w2) : But g w w2 :=
  ⟨k.os.trans h.os, k.tape.trans h.tape, k.output.trans h.output, Nat.le_trans h.size k.size, fun i hi hg => (k.block i (Nat.lt_of_lt_of_le hi h.size) hg).trans (h.block i hi hg)⟩
theorem But.of_below (h : Below w.heap.size w w1) : But g w w1 := ⟨h.os, h.tape, h.output, h.size, fun k hk _ => h.block k hk⟩
theorem But.step (h : But g w w1) (k : Below w1.heap.size w1 w2) : But g w w2 := h.trans (.of_below k)
theorem But.set (h : But g w w1) {p : Addr} (hp : p.block = g) (u : Value) : But g w (w1.setCell p u) :=
  ⟨h.os, h.tape, h.output, by simpa [World.setCell] using h.size, fun k hk hg => (Below.heap_setCell w1 p u k (by rw [hp]; exact hg)).trans (h.block k hk hg)⟩
theorem But.below (h : But g w w1) {B : Nat} (hB : B ≤ w.heap.size) (hg : B ≤ g) : Below B w w1 := ⟨h.os, h.tape, h.output, h.size, fun k hk => h.block k (by omega) (by omega)⟩
theorem But.cell (h : But g w w1) {p : Addr} (hp : p.block < w.heap.size) (hg : p.block ≠ g) : w1.cell? p = w.cell? p := World.cell?_of_block (h.block _ hp hg)
theorem Blk.but {b : Nat} {t : TypeId} {cs : Array Value} (h : Blk w b t cs) (k : But g w w1) (hg : b ≠ g) : Blk w1 b t cs := (k.block b h.lt hg).trans h
end

end Go.Proofs.YtfkapannahcjiaaGreatDoor


/- Rows of records: slices whose elements are records of s cells. -/
namespace Go.Proofs.YtfkapannahcjiaaGreatDoor
open Go.RowKit

section
variable {α : Type} {rec : α → List Value} {s : Nat}

def flat (rec : α → List Value) (xs : List α) : List Value := xs.flatMap rec
theorem flat_append (rec : α → List Value) (xs ys : List α) : flat rec (xs ++ ys) = flat rec xs ++ flat rec ys := by simp [flat]
theorem flat_snoc (rec : α → List Value) (xs : List α) (a : α) : flat rec (xs ++ [a]) = flat rec xs ++ rec a := by simp [flat]
theorem flat_length (hs : ∀ a, (rec a).length = s) (xs : List α) : (flat rec xs).length = xs.length * s := by
  induction xs with
  | nil => simp [flat]
  | cons a l ih =>
    have : flat rec (a :: l) = rec a ++ flat rec l := rfl
    rw [this, List.length_append, ih, hs, List.length_cons, Nat.add_mul]
    omega
theorem flat_get (hs : ∀ a, (rec a).length = s) : ∀ {xs : List α} {i j : Nat} {a : α} {v : Value}, xs[i]? = some a → (rec a)[j]? = some v → (flat rec xs)[i * s + j]? = some v := by
  intro xs
  induction xs with
  | nil => intro i j a v h; simp at h
  | cons b l ih =>
    intro i j a v h1 h2
    have e : flat rec (b :: l) = rec b ++ flat rec l := rfl
    rw [e]
    cases i with
    | zero =>
      simp at h1
      subst h1
      have hj : j < (rec b).length := (List.getElem?_eq_some_iff.1 h2).1
      rw [Nat.zero_mul, Nat.zero_add, List.getElem?_append_left hj]
      exact h2
    | succ i =>
      have hb := hs b
      rw [List.getElem?_append_right (by rw [hb, Nat.add_mul]; omega), hb, show (i + 1) * s + j - s = i * s + j by rw [Nat.add_mul]; omega]
      exact ih (by simpa using h1) h2

/-- a slice of records -/
structure SR (s : Nat) (rec : α → List Value) (w : World) (A : Option Addr) (n c : Nat) (xs : List α) : Prop where
  ln : n = xs.length
  lc : n ≤ c
  el : 0 < n → ∃ b off, A = some ⟨b, off, none⟩ ∧ b < w.heap.size ∧ ∀ (i : Nat) (a : α), xs[i]? = some a → ∀ (j : Nat) (v : Value), (rec a)[j]? = some v → w.cell? ⟨b, off + i * s + j, none⟩ = some v
theorem SR.step {w w' : World} {A : Option Addr} {n c : Nat} {xs : List α} (h : SR s rec w A n c xs) (hb : Below w.heap.size w w') : SR s rec w' A n c xs := by
  refine ⟨h.ln, h.lc, fun hn => ?_⟩
  obtain ⟨b, off, h1, h2, h3⟩ := h.el hn
  exact ⟨b, off, h1, Nat.lt_of_lt_of_le h2 hb.size, fun i a hi j v hj => (hb.cell (p := ⟨b, off + i * s + j, none⟩) h2).trans (h3 i a hi j v hj)⟩
theorem SR.nil {w : World} {A : Option Addr} {c : Nat} : SR s rec w A 0 c ([] : List α) := ⟨rfl, Nat.zero_le _, fun h => absurd h (Nat.lt_irrefl 0)⟩
theorem SR.alloc {w : World} {A : Option Addr} {n c : Nat} {xs : List α} (h : SR s rec w A n c xs) (o : Obj) : SR s rec (w.alloc o) A n c xs := h.step ((Below.refl _ _).alloc (Nat.le_refl _) o)

theorem own_lt {w : World} {base : Nat} {e : TypeId} {size n : Nat} {v : Value} {xs : List Value} (h : w.ownsRow base e size v n xs) {g : Nat} (hg : v.ownBlock = some g) : g < w.heap.size := by
  rcases h.2 with ⟨rfl, _⟩ | ⟨g', cap, cur, rfl, _, hh, _⟩
  · simp [Value.ownBlock] at hg
  · simp [Value.ownBlock] at hg
    subst hg
    rcases Nat.lt_or_ge g' w.heap.size with hlt | hge
    · exact hlt
    · rw [Array.getElem?_eq_none hge] at hh; cases hh
theorem own_ne {w : World} {base : Nat} {e : TypeId} {size n : Nat} {v : Value} {xs : List Value} (h : w.ownsRow base e size v n xs) {g : Nat} (hg : g < base) : v.ownBlock ≠ some g := by
  rcases h.2 with ⟨rfl, _⟩ | ⟨g', cap, cur, rfl, hge, _⟩
  · simp [Value.ownBlock]
  · simp [Value.ownBlock]
    omega
theorem own_ge {w : World} {base : Nat} {e : TypeId} {size n : Nat} {v : Value} {xs : List Value} (h : w.ownsRow base e size v n xs) : ∀ g, v.ownBlock = some g → base ≤ g := by
  rcases h.2 with ⟨rfl, _⟩ | ⟨g', cap, cur, rfl, hge, _⟩
  · intro g hg; simp [Value.ownBlock] at hg
  · intro g hg
    simp [Value.ownBlock] at hg
    omega
theorem own_slice {w : World} {base : Nat} {e : TypeId} {size n : Nat} {v : Value} {xs : List Value} (h : w.ownsRow base e size v n xs) : ∃ A c, v = .slice A n c ∧ n ≤ c := by
  rcases h.2 with ⟨rfl, rfl⟩ | ⟨g, cap, cur, hv, _, _, hnc, _⟩
  · exact ⟨none, 0, rfl, Nat.le_refl _⟩
  · exact ⟨_, _, hv, hnc⟩
theorem own_step {w w' : World} {base : Nat} {e : TypeId} {size n : Nat} {v : Value} {xs : List Value} (h : w.ownsRow base e size v n xs) (hb : Below w.heap.size w w') : w'.ownsRow base e size v n xs := by
  refine ⟨h.1, ?_⟩
  rcases h.2 with h2 | ⟨g, cap, cur, hv, hg, hh, hr⟩
  · exact .inl h2
  · refine .inr ⟨g, cap, cur, hv, hg, ?_, hr⟩
    have hlt : g < w.heap.size := by
      rcases Nat.lt_or_ge g w.heap.size with hlt | hge
      · exact hlt
      · rw [Array.getElem?_eq_none hge] at hh; cases hh
    rw [hb.block g hlt]
    exact hh
/-- a row of the call's own reads as a slice of records -/
theorem SR.of_own {w : World} {base : Nat} {t : TypeId} {v : Value} {n : Nat} {xs : List α} (hs : ∀ a, (rec a).length = s) (h : w.ownsRow base t s v n (flat rec xs)) (hl : xs.length = n) : ∃ A c, v = .slice A n c ∧ SR s rec w A n c xs := by
  rcases h.2 with ⟨rfl, rfl⟩ | ⟨g, cap, cur, rfl, _, hh, hnc, _⟩
  · exact ⟨none, 0, rfl, hl.symm, Nat.le_refl _, fun h => absurd h (by omega)⟩
  · refine ⟨_, _, rfl, hl.symm, hnc, fun _ => ⟨g, 0, rfl, own_lt h rfl, fun i a hi j u hj => ?_⟩⟩
    have := h.cells (g := g) rfl (i * s + j) u (flat_get hs hi hj)
    rw [addr_add] at this
    rw [Nat.zero_add] at this ⊢
    exact this
theorem own_nil (w : World) (base : Nat) (e : TypeId) (size : Nat) : w.ownsRow base e size (.slice none 0 0) 0 [] := ⟨by simp, .inl ⟨rfl, rfl⟩⟩
end
end Go.Proofs.YtfkapannahcjiaaGreatDoor


/- Stores into a list, one behind the other. -/
namespace Go.Proofs.YtfkapannahcjiaaGreatDoor
open Go.RowKit

/-- stores into a list, one behind the other -/
def setList {α : Type} (l : List α) (k : Nat) : List α → List α
  | [] => l
  | v :: vs => setList (l.set k v) (k + 1) vs
theorem setList_eq {α : Type} : ∀ (vs l : List α) (k : Nat), k + vs.length ≤ l.length → setList l k vs = l.take k ++ vs ++ l.drop (k + vs.length) := by
  intro vs
  induction vs with
  | nil => intro l k _; simp [setList]
  | cons v vs ih =>
    intro l k h
    simp only [List.length_cons] at h
    rw [setList, ih _ _ (by simp; omega), List.take_set, List.drop_set_of_lt (by omega)]
    have e1 : (l.take (k + 1)).set k v = l.take k ++ [v] := by
      rw [List.take_succ_eq_append_getElem (by omega), List.set_append_right _ _ (by simp; omega)]
      simp
      rw [show k - min k l.length = 0 by omega]
      rfl
    rw [e1]
    simp only [List.append_assoc, List.singleton_append, List.length_cons, show k + 1 + vs.length = k + (vs.length + 1) by omega]

end Go.Proofs.YtfkapannahcjiaaGreatDoor


/- Three comparisons that fit. -/
namespace Go.Proofs.YtfkapannahcjiaaGreatDoor

/-- three results of a comparison fit -/
def TR (a b c : Int) : Prop := a ≤ 0 → b ≤ 0 → c ≤ 0 ∧ (c = 0 ↔ a = 0 ∧ b = 0)

end Go.Proofs.YtfkapannahcjiaaGreatDoor

