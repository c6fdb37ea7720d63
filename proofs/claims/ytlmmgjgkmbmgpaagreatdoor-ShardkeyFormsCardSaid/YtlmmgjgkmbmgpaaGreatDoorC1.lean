/- Parts of the proof, joined: ChOpenA, ShOpen, Kit6, ChBaseB, ChSame, ShSame23, RoOpen, ValOpenL. -/
import Derived.Test.YtlmmgjgkmbmgpaaGreatDoorB10
import Derived.Test.YtlmmgjgkmbmgpaaGreatDoorB18
import Derived.Test.YtlmmgjgkmbmgpaaGreatDoorB8
import Derived.Test.YtlmmgjgkmbmgpaaGreatDoorB3
import Derived.Test.YtlmmgjgkmbmgpaaGreatDoorB1
import Derived.Laws.IdiomCopy
import Derived.Lib.SliceRun
import Derived.Shelf.Spec.SlicesInsertGrow
import Derived.Lib.SmallJoins
import Derived.ProofKit
import Derived.OpenShut
import Derived.Deep.Slices
import Derived.Deep.Fields
import Derived.ChangeSame
/- A list of texts that came in, opened. · A list of orders that came in, opened; what New is called with. · Routes that came in, opened. · A change that came in, opened. -/
namespace Go.Proofs.YtlmmgjgkmbmgpaaGreatDoor
set_option maxRecDepth 100000
open Go.ChangeShapes Go.WideShapes Go.ChangeAt Go.RowKit Go.Joins Go.Deep

theorem bytes_string : Tryz.prog.bytesOf 9 = 16 := by kernel_rfl
section
variable {H : Type} {enc : TypeId × Value → H} {W : World} {base : Nat} {spare : Nat → Bool} {held : Bool}
theorem read_texts (n : Nat) {v : Value} {y : DataW H × List MemPlace} (h : DataW.trod enc Tryz.prog W base spare held n 48 [v] = some y) (hw : Light 48 y.1) :
    ∃ (A : Option Addr) (n c : Nat) (xs : List ByteArray), v = .slice A n c ∧ ST W A n c xs := by
  rcases DataW.trod_slice Tryz.underlying48 h with ⟨hcs, _⟩ | ⟨a, len, cap, elems, rest, n', rfl, hcs, rfl, _, hlc, hcm, hel, hat, _, _⟩
  · simp at hcs
    exact ⟨none, 0, 0, [], hcs, ⟨SR.nil, by show 0 * 16 ≤ reach; decide, fun s hs => by simp at hs⟩⟩
  · simp at hcs
    subst hcs
    simp only [Light, DataW.weights, Tryz.underlying48, List.mem_cons, List.mem_append, bytes_string] at hw
    have hsz : len * 16 ≤ reach := by
      have := hw _ (.inl rfl)
      simp only [List.length_map, hel] at this
      have h2 : len * 16 ≤ (len + rest.length) * 16 := Nat.mul_le_mul_right _ (by omega)
      have := le_reach
      omega
    have wl := light_all (l := elems.map (·.1)) (fun z hz => hw z (.inr (.inl hz)))
    rcases Nat.eq_zero_or_pos len with h0 | hp
    · subst h0
      exact ⟨some a, 0, cap, [], rfl, ⟨SR.nil, by show 0 * 16 ≤ reach; decide, fun s hs => by simp at hs⟩⟩
    have step : ∀ i, i < len → ∃ s : ByteArray, W.cells? base (a.add (i * 1)) 1 = some [.string s] ∧ s.size ≤ reach := by
      intro i hi
      have h1 := hat i hi
      rw [cells_string, List.getElem?_eq_getElem (by omega)] at h1
      obtain ⟨cs', hcs', ht'⟩ := Option.bind_eq_some_iff.1 h1
      have hwi := wl _ (List.mem_map_of_mem (List.getElem_mem (l := elems) (n := i) (by omega)))
      generalize elems[i] = q at *
      obtain ⟨s, e0, rfl, _⟩ := DataW.trod_string Tryz.underlying9 ht'
      subst e0
      refine ⟨s, hcs', Nat.le_trans (hwi s.size ?_) le_reach⟩
      simp [DataW.weights]
    obtain ⟨s0, h0, _⟩ := step 0 hp
    obtain ⟨b, off, ha, _⟩ := cells_at h0 (by omega)
    have ha' : a = ⟨b, off, none⟩ := by simpa [Addr.add] using ha
    subst ha'
    obtain ⟨f, hf⟩ := choose_fn (p := fun i (s : ByteArray) => W.cell? ⟨b, off + i, none⟩ = some (.string s) ∧ s.size ≤ reach) ByteArray.empty len (fun i hi => by
      obtain ⟨s, hcs', hs⟩ := step i hi
      rw [addr_add] at hcs'
      obtain ⟨b', off', ha', hc⟩ := cells_at hcs' (by omega)
      injection ha' with e1 e2
      subst e1 e2
      have := hc 0 (by omega)
      rw [Nat.mul_one] at this
      exact ⟨s, this, hs⟩)
    refine ⟨_, len, cap, (List.range len).map f, rfl, ⟨⟨by simp, hlc, fun _ => ⟨b, off, rfl, World.block_lt_of_cell? W _ (hf 0 hp).1, fun i x hi j u hj => ?_⟩⟩, hsz, fun s hs => ?_⟩⟩
    · have hlt : i < len := by have := (List.getElem?_eq_some_iff.1 hi).1; simpa using this
      rw [List.getElem?_map, List.getElem?_range hlt] at hi
      simp only [Option.map_some, Option.some.injEq] at hi
      subst hi
      have hj0 : j = 0 := by have := (List.getElem?_eq_some_iff.1 hj).1; simpa [recT] using this
      subst hj0
      simp [recT] at hj
      subst hj
      rw [Nat.mul_one, Nat.add_zero]
      exact (hf i hlt).1
    · obtain ⟨i, hi, rfl⟩ := List.mem_map.1 hs
      exact (hf i (List.mem_range.1 hi)).2
theorem open_texts {r : Reach} {b0 : Nat} {v : Value} {d : DataW H} {p : List MemPlace} (hv : Value.okWide Tryz.prog W r b0 48 v) (h : DataW.Trod enc Tryz.prog W base spare held 48 v d p) (hw : Light 48 d) :
    ∃ (A : Option Addr) (n c : Nat) (xs : List ByteArray), v = .slice A n c ∧ ST W A n c xs := by
  obtain ⟨a, len, cap, rfl⟩ := okWide_slice Tryz.underlying48 hv
  obtain ⟨fuel, hf⟩ := h
  exact read_texts fuel hf hw
end
end Go.Proofs.YtlmmgjgkmbmgpaaGreatDoor

namespace Go.Proofs.YtlmmgjgkmbmgpaaGreatDoor
set_option maxRecDepth 100000
open Go.ChangeShapes Go.WideShapes Go.ChangeAt Go.RowKit Go.Joins Go.Deep

theorem bytes_order : Tryz.prog.bytesOf 130 = 32 := by kernel_rfl
theorem cells_order : Tryz.prog.cellsOf 130 = 2 := by kernel_rfl
theorem cells_texts : Tryz.prog.cellsOf 48 = 1 := by kernel_rfl
theorem cells_bool : Tryz.prog.cellsOf 4 = 1 := by kernel_rfl
section
variable {H : Type} {enc : TypeId × Value → H} {W : World} {base : Nat} {spare : Nat → Bool} {held : Bool}
theorem read_orders (n : Nat) {v : Value} {y : DataW H × List MemPlace} (h : DataW.trod enc Tryz.prog W base spare held n 22 [v] = some y) (hw : Light 22 y.1) :
    ∃ (A : Option Addr) (n c : Nat) (ks : List Od), v = .slice A n c ∧ KS W A n c ks := by
  rcases DataW.trod_slice Tryz.underlying22 h with ⟨hcs, _⟩ | ⟨a, len, cap, elems, rest, n', rfl, hcs, rfl, _, hlc, hcm, hel, hat, _, _⟩
  · simp at hcs
    exact ⟨none, 0, 0, [], hcs, KS.nil⟩
  · simp at hcs
    subst hcs
    simp only [Light, DataW.weights, Tryz.underlying22, List.mem_cons, List.mem_append, bytes_order] at hw
    have hsz : len * 32 ≤ reach := by
      have := hw _ (.inl rfl)
      simp only [List.length_map, hel] at this
      have h2 : len * 32 ≤ (len + rest.length) * 32 := Nat.mul_le_mul_right _ (by omega)
      have := le_reach
      omega
    have wl := light_all (l := elems.map (·.1)) (fun z hz => hw z (.inr (.inl hz)))
    rcases Nat.eq_zero_or_pos len with h0 | hp
    · subst h0
      exact ⟨some a, 0, cap, [], rfl, KS.nil⟩
    have step : ∀ i, i < len → ∃ (o : OC) (q : Od), W.cells? base (a.add (i * 2)) 2 = some [.slice o.A o.n o.c, .bool o.d] ∧ OR W o q := by
      intro i hi
      have h1 := hat i hi
      rw [cells_order, List.getElem?_eq_getElem (by omega)] at h1
      obtain ⟨cs', hcs', ht'⟩ := Option.bind_eq_some_iff.1 h1
      have hwi := wl _ (List.mem_map_of_mem (List.getElem_mem (l := elems) (n := i) (by omega)))
      generalize elems[i] = q at *
      obtain ⟨ys, n'', rfl, rfl, hcl, hyl, hf⟩ := DataW.trod_struct Tryz.underlying130 ht'
      rw [cells_order] at hcl
      obtain ⟨v0, v1, rfl⟩ := two hcl
      obtain ⟨y0, y1, rfl⟩ := two hyl
      have f0 : DataW.trod enc Tryz.prog W base spare held n'' 48 [v0] = some y0 := by simpa [cells_texts] using hf 0 _ rfl
      have f1 : DataW.trod enc Tryz.prog W base spare held n'' 4 [v1] = some y1 := by simpa [cells_texts, cells_bool] using hf 1 _ rfl
      simp only [Light, DataW.weights, Tryz.underlying130, List.map, DataW.weightsEach, List.mem_append] at hwi
      obtain ⟨A, m, c, xs, rfl, hx⟩ := read_texts n'' f0 (fun z hz => hwi z (.inl hz))
      obtain ⟨d, e1, rfl⟩ := DataW.trod_bool Tryz.underlying4 f1
      simp only [List.cons.injEq, and_true] at e1
      subst e1
      exact ⟨⟨A, m, c, d⟩, ⟨xs, d⟩, hcs', rfl, hx⟩
    obtain ⟨o0, q0, h0, _⟩ := step 0 hp
    obtain ⟨b, off, ha, _⟩ := cells_at h0 (by omega)
    have ha' : a = ⟨b, off, none⟩ := by simpa [Addr.add] using ha
    subst ha'
    obtain ⟨f, hf⟩ := choose_fn (p := fun i (z : OC × Od) => W.cell? ⟨b, off + i * 2, none⟩ = some (.slice z.1.A z.1.n z.1.c) ∧ W.cell? ⟨b, off + i * 2 + 1, none⟩ = some (.bool z.1.d) ∧ OR W z.1 z.2) (o0, q0) len (fun i hi => by
      obtain ⟨o, q, hcs', ho⟩ := step i hi
      rw [addr_add] at hcs'
      obtain ⟨b', off', ha', hc⟩ := cells_at hcs' (by omega)
      injection ha' with e1 e2
      subst e1 e2
      exact ⟨(o, q), hc 0 (by omega), hc 1 (by omega), ho⟩)
    refine ⟨_, len, cap, (List.range len).map fun i => (f i).2, rfl, (List.range len).map (fun i => (f i).1), ⟨by simp, hlc, fun _ => ⟨b, off, rfl, World.block_lt_of_cell? W _ (hf 0 hp).1, fun i x hi j u hj => ?_⟩⟩, hsz, by simp, fun i o q hi hq => ?_⟩
    · have hlt : i < len := by have := (List.getElem?_eq_some_iff.1 hi).1; simpa using this
      rw [List.getElem?_map, List.getElem?_range hlt] at hi
      simp only [Option.map_some, Option.some.injEq] at hi
      subst hi
      have hj2 : j < 2 := by have := (List.getElem?_eq_some_iff.1 hj).1; simpa [recO] using this
      rcases (show j = 0 ∨ j = 1 by omega) with rfl | rfl
      · simp [recO] at hj
        subst hj
        rw [Nat.add_zero]
        exact (hf i hlt).1
      · simp [recO] at hj
        subst hj
        exact (hf i hlt).2.1
    · have hlt : i < len := by have := (List.getElem?_eq_some_iff.1 hi).1; simpa using this
      rw [List.getElem?_map, List.getElem?_range hlt] at hi hq
      simp only [Option.map_some, Option.some.injEq] at hi hq
      subst hi hq
      exact (hf i hlt).2.2
theorem cells_key : Tryz.prog.cellsOf 24 = 2 := by kernel_rfl
theorem cells_orders : Tryz.prog.cellsOf 22 = 1 := by kernel_rfl
theorem three {α : Type} {l : List α} (h : l.length = 3) : ∃ a b c, l = [a, b, c] := by
  match l, h with
  | [a, b, c], _ => exact ⟨a, b, c, rfl⟩
theorem four {α : Type} {l : List α} (h : l.length = 4) : ∃ a b c d, l = [a, b, c, d] := by
  match l, h with
  | [a, b, c, d], _ => exact ⟨a, b, c, d, rfl⟩
end
end Go.Proofs.YtlmmgjgkmbmgpaaGreatDoor

namespace Go.Proofs.YtlmmgjgkmbmgpaaGreatDoor
set_option maxRecDepth 100000
open Go.ChangeShapes Go.WideShapes Go.ChangeAt Go.RowKit Go.Joins Go.Deep

theorem bytes_chunk : Tryz.prog.bytesOf 80 = 56 := by kernel_rfl
theorem cells_chunk : Tryz.prog.cellsOf 80 = 5 := by kernel_rfl
theorem cells_chunks : Tryz.prog.cellsOf 25 = 1 := by kernel_rfl
theorem cells_routes : Tryz.prog.cellsOf 27 = 6 := by kernel_rfl
section
variable {H : Type} {enc : TypeId × Value → H} {W : World} {base : Nat} {spare : Nat → Bool} {held : Bool}
theorem read_chunks (n : Nat) {v : Value} {y : DataW H × List MemPlace} (h : DataW.trod enc Tryz.prog W base spare held n 25 [v] = some y) (hw : Light 25 y.1) :
    ∃ (A : Option Addr) (n c : Nat) (cs : List Ch), v = .slice A n c ∧ CS W A n c cs := by
  rcases DataW.trod_slice Tryz.underlying25 h with ⟨hcs, _⟩ | ⟨a, len, cap, elems, rest, n', rfl, hcs, rfl, _, hlc, hcm, hel, hat, _, _⟩
  · simp at hcs
    exact ⟨none, 0, 0, [], hcs, CS.nil⟩
  · simp at hcs
    subst hcs
    simp only [Light, DataW.weights, Tryz.underlying25, List.mem_cons, List.mem_append, bytes_chunk] at hw
    have hsz : len * 56 ≤ reach := by
      have := hw _ (.inl rfl)
      simp only [List.length_map, hel] at this
      have h2 : len * 56 ≤ (len + rest.length) * 56 := Nat.mul_le_mul_right _ (by omega)
      have := le_reach
      omega
    rcases Nat.eq_zero_or_pos len with h0 | hp
    · subst h0
      exact ⟨some a, 0, cap, [], rfl, CS.nil⟩
    have step : ∀ i, i < len → ∃ x : Ch, W.cells? base (a.add (i * 5)) 5 = some (recC x) := by
      intro i hi
      have h1 := hat i hi
      rw [cells_chunk, List.getElem?_eq_getElem (by omega)] at h1
      obtain ⟨cs', hcs', ht'⟩ := Option.bind_eq_some_iff.1 h1
      generalize elems[i] = q at *
      obtain ⟨ys, n'', rfl, rfl, hcl, hyl, hf⟩ := DataW.trod_struct Tryz.underlying80 ht'
      rw [cells_chunk] at hcl
      obtain ⟨v0, v1, v2, v3, v4, rfl⟩ := five hcl
      obtain ⟨y0, y1, y2, y3, y4, rfl⟩ := five hyl
      have f0 : DataW.trod enc Tryz.prog W base spare held n'' 9 [v0] = some y0 := by simpa [cells_string] using hf 0 _ rfl
      have f1 : DataW.trod enc Tryz.prog W base spare held n'' 9 [v1] = some y1 := by simpa [cells_string] using hf 1 _ rfl
      have f2 : DataW.trod enc Tryz.prog W base spare held n'' 3 [v2] = some y2 := by simpa [cells_string, cells_int] using hf 2 _ rfl
      have f3 : DataW.trod enc Tryz.prog W base spare held n'' 3 [v3] = some y3 := by simpa [cells_string, cells_int] using hf 3 _ rfl
      have f4 : DataW.trod enc Tryz.prog W base spare held n'' 4 [v4] = some y4 := by simpa [cells_string, cells_int, cells_bool] using hf 4 _ rfl
      obtain ⟨s0, e0, _⟩ := DataW.trod_string Tryz.underlying9 f0
      obtain ⟨s1, e1, _⟩ := DataW.trod_string Tryz.underlying9 f1
      obtain ⟨i2, e2, _⟩ := DataW.trod_int Tryz.underlying3 f2
      obtain ⟨i3, e3, _⟩ := DataW.trod_int Tryz.underlying3 f3
      obtain ⟨b4, e4, _⟩ := DataW.trod_bool Tryz.underlying4 f4
      simp only [List.cons.injEq, and_true] at e0 e1 e2 e3 e4
      subst e0 e1 e2 e3 e4
      exact ⟨⟨s0, s1, i2, i3, b4⟩, hcs'⟩
    obtain ⟨x0, h0⟩ := step 0 hp
    obtain ⟨b, off, ha, hc0⟩ := cells_at h0 (by omega)
    have ha' : a = ⟨b, off, none⟩ := by simpa [Addr.add] using ha
    subst ha'
    have hbl := World.block_lt_of_cell? W _ ((hc0 0 (by omega)).trans (show (recC x0)[0]? = some _ from rfl))
    obtain ⟨f, hf⟩ := choose_fn (p := fun i (x : Ch) => ∀ j, j < 5 → W.cell? ⟨b, off + i * 5 + j, none⟩ = (recC x)[j]?) x0 len (fun i hi => by
      obtain ⟨x, hcs'⟩ := step i hi
      rw [addr_add] at hcs'
      obtain ⟨b', off', ha', hc⟩ := cells_at hcs' (by omega)
      injection ha' with e1 e2
      subst e1 e2
      exact ⟨x, hc⟩)
    refine ⟨_, len, cap, (List.range len).map f, rfl, ⟨⟨by simp, hlc, fun _ => ⟨b, off, rfl, hbl, fun i x hi j u hj => ?_⟩⟩, hsz⟩⟩
    have hlt : i < len := by have := (List.getElem?_eq_some_iff.1 hi).1; simpa using this
    rw [List.getElem?_map, List.getElem?_range hlt] at hi
    simp only [Option.map_some, Option.some.injEq] at hi
    subst hi
    have hj5 : j < 5 := by have := (List.getElem?_eq_some_iff.1 hj).1; rwa [recC_length] at this
    rw [hf i hlt j hj5]
    exact hj
theorem read_routes (fuel : Nat) (cs : List Value) (y : DataW H × List MemPlace) (h : DataW.trod enc Tryz.prog W base spare held fuel 27 cs = some y) (hw : Light 27 y.1) :
    ∃ (a : RA) (R : Ro), cs = (rarr a R).toList ∧ RR W a R := by
  obtain ⟨ys, n1, rfl, rfl, hcl, hyl, hf⟩ := DataW.trod_struct Tryz.underlying27 h
  rw [cells_routes] at hcl
  obtain ⟨v0, v1, v2, v3, v4, v5, rfl⟩ := six hcl
  obtain ⟨y0, y1, y2, y3, y4, rfl⟩ := five hyl
  have f0 : DataW.trod enc Tryz.prog W base spare held n1 9 [v0] = some y0 := by simpa [cells_string] using hf 0 _ rfl
  have f1 : DataW.trod enc Tryz.prog W base spare held n1 24 [v1, v2] = some y1 := by simpa [cells_string, cells_key] using hf 1 _ rfl
  have f2 : DataW.trod enc Tryz.prog W base spare held n1 3 [v3] = some y2 := by simpa [cells_string, cells_key, cells_int] using hf 2 _ rfl
  have f3 : DataW.trod enc Tryz.prog W base spare held n1 3 [v4] = some y3 := by simpa [cells_string, cells_key, cells_int] using hf 3 _ rfl
  have f4 : DataW.trod enc Tryz.prog W base spare held n1 25 [v5] = some y4 := by simpa [cells_string, cells_key, cells_int, cells_chunks] using hf 4 _ rfl
  simp only [Light, DataW.weights, Tryz.underlying27, List.map, DataW.weightsEach, List.mem_append] at hw
  obtain ⟨sp, e0, rfl, _⟩ := DataW.trod_string Tryz.underlying9 f0
  obtain ⟨ep, e2, _⟩ := DataW.trod_int Tryz.underlying3 f2
  obtain ⟨ve, e3, _⟩ := DataW.trod_int Tryz.underlying3 f3
  simp only [List.cons.injEq, and_true] at e0 e2 e3
  subst e0 e2 e3
  have w1 : ∀ z ∈ y1.1.weights Tryz.prog 24, z ≤ reach0 := fun z hz => hw z (.inr (.inl hz))
  have w4 : Light 25 y4.1 := fun z hz => hw z (.inr (.inr (.inr (.inr (.inl hz)))))
  obtain ⟨ys, n2, rfl, rfl, hcl2, hyl2, hf2⟩ := DataW.trod_struct Tryz.underlying24 f1
  obtain ⟨z0, z1, rfl⟩ := two hyl2
  have g0 : DataW.trod enc Tryz.prog W base spare held n2 22 [v1] = some z0 := by simpa [cells_orders] using hf2 0 _ rfl
  have g1 : DataW.trod enc Tryz.prog W base spare held n2 4 [v2] = some z1 := by simpa [cells_orders, cells_bool] using hf2 1 _ rfl
  simp only [DataW.weights, Tryz.underlying24, List.map, DataW.weightsEach, List.mem_append] at w1
  obtain ⟨KA, kn, kc, ks, rfl, hk⟩ := read_orders n2 g0 (fun z hz => w1 z (.inl hz))
  obtain ⟨ha, e5, rfl⟩ := DataW.trod_bool Tryz.underlying4 g1
  simp only [List.cons.injEq, and_true] at e5
  subst e5
  obtain ⟨CA, cn, cc, cs, rfl, hc⟩ := read_chunks _ f4 w4
  exact ⟨⟨KA, kn, kc, CA, cn, cc⟩, ⟨sp, ks, ha, ep, ve, cs⟩, rfl, Nat.le_trans (hw sp.size (.inl (by simp [DataW.weights]))) le_reach, hk, hc⟩
theorem open_routes {r : Reach} {b0 : Nat} {v : Value} {d : DataW H} {p : List MemPlace} (hv : Value.okWide Tryz.prog W r b0 27 v) (h : DataW.Trod enc Tryz.prog W base spare held 27 v d p) (hw : Light 27 d) :
    ∃ (a : RA) (R : Ro), v = rval a R ∧ RR W a R := by
  obtain ⟨cs, rfl, hsz⟩ := okWide_struct Tryz.underlying27 hv
  obtain ⟨fuel, hf⟩ := h
  obtain ⟨a, R, hc, h1⟩ := read_routes fuel _ _ hf hw
  refine ⟨a, R, ?_, h1⟩
  obtain ⟨l⟩ := cs
  simp only [Value.cells] at hc
  rw [show l = _ from hc]
end
end Go.Proofs.YtlmmgjgkmbmgpaaGreatDoor

namespace Go.Proofs.YtlmmgjgkmbmgpaaGreatDoor
set_option maxRecDepth 100000
open Go.ChangeShapes Go.WideShapes Go.ChangeAt Go.RowKit Go.Joins Go.Deep

section
variable {H : Type} {enc : TypeId × Value → H} {W : World} {base : Nat} {spare : Nat → Bool} {held : Bool}
end
end Go.Proofs.YtlmmgjgkmbmgpaaGreatDoor


/- A shard key that came in, opened. -/
namespace Go.Proofs.YtlmmgjgkmbmgpaaGreatDoor
set_option maxRecDepth 100000
open Go.ChangeShapes Go.WideShapes Go.ChangeAt Go.RowKit Go.Joins Go.Deep

section
variable {H : Type} {enc : TypeId × Value → H} {W : World} {base : Nat} {spare : Nat → Bool} {held : Bool}
theorem cells_key2 : Tryz.prog.cellsOf 24 = 2 := by kernel_rfl
theorem read_key (fuel : Nat) (cs : List Value) (y : DataW H × List MemPlace) (h : DataW.trod enc Tryz.prog W base spare held fuel 24 cs = some y) (hw : Light 24 y.1) :
    ∃ (A : Option Addr) (n c : Nat) (ha : Bool) (ks : List Od), cs = [.slice A n c, .bool ha] ∧ KS W A n c ks := by
  obtain ⟨ys, n2, rfl, rfl, hcl2, hyl2, hf2⟩ := DataW.trod_struct Tryz.underlying24 h
  rw [cells_key2] at hcl2
  obtain ⟨v1, v2, rfl⟩ := two hcl2
  obtain ⟨z0, z1, rfl⟩ := two hyl2
  have g0 : DataW.trod enc Tryz.prog W base spare held n2 22 [v1] = some z0 := by simpa [cells_orders] using hf2 0 _ rfl
  have g1 : DataW.trod enc Tryz.prog W base spare held n2 4 [v2] = some z1 := by simpa [cells_orders, cells_bool] using hf2 1 _ rfl
  simp only [Light, DataW.weights, Tryz.underlying24, List.map, DataW.weightsEach, List.mem_append] at hw
  obtain ⟨A, n, c, ks, rfl, hk⟩ := read_orders n2 g0 (fun z hz => hw z (.inl hz))
  obtain ⟨ha, e3, rfl⟩ := DataW.trod_bool Tryz.underlying4 g1
  simp only [List.cons.injEq, and_true] at e3
  subst e3
  exact ⟨A, n, c, ha, ks, rfl, hk⟩
theorem open_key {r : Reach} {b0 : Nat} {v : Value} {d : DataW H} {p : List MemPlace} (hv : Value.okWide Tryz.prog W r b0 24 v) (h : DataW.Trod enc Tryz.prog W base spare held 24 v d p) (hw : Light 24 d) :
    ∃ (A : Option Addr) (n c : Nat) (ha : Bool) (ks : List Od), v = .agg #[.slice A n c, .bool ha] ∧ KS W A n c ks := by
  obtain ⟨cs, rfl, hsz⟩ := okWide_struct Tryz.underlying24 hv
  obtain ⟨fuel, hf⟩ := h
  obtain ⟨A, n, c, ha, ks, hc, h1⟩ := read_key fuel _ _ hf hw
  refine ⟨A, n, c, ha, ks, ?_, h1⟩
  obtain ⟨l⟩ := cs
  simp only [Value.cells] at hc
  rw [show l = _ from hc]
end
end Go.Proofs.YtlmmgjgkmbmgpaaGreatDoor


/- Parts of rows; stores of many cells into a block. -/
namespace Go.Proofs.YtlmmgjgkmbmgpaaGreatDoor
open Go.RowKit

theorem flat_take {α : Type} {rec : α → List Value} {s : Nat} (hs : ∀ a, (rec a).length = s) : ∀ (xs : List α) (k : Nat), (flat rec xs).take (k * s) = flat rec (xs.take k) := by
  intro xs
  induction xs with
  | nil => intro k; simp [flat]
  | cons a l ih =>
    intro k
    cases k with
    | zero => simp [flat]
    | succ k =>
      have e : ∀ (y : α) (t : List α), flat rec (y :: t) = rec y ++ flat rec t := fun _ _ => rfl
      rw [List.take_succ_cons, e, e, ← ih k, show (k + 1) * s = (rec a).length + k * s by rw [hs, Nat.add_mul]; omega, List.take_length_add_append]
theorem flat_drop {α : Type} {rec : α → List Value} {s : Nat} (hs : ∀ a, (rec a).length = s) : ∀ (xs : List α) (k : Nat), (flat rec xs).drop (k * s) = flat rec (xs.drop k) := by
  intro xs
  induction xs with
  | nil => intro k; simp [flat]
  | cons a l ih =>
    intro k
    cases k with
    | zero => simp [flat]
    | succ k =>
      have e : ∀ (y : α) (t : List α), flat rec (y :: t) = rec y ++ flat rec t := fun _ _ => rfl
      rw [List.drop_succ_cons, e, ← ih k, show (k + 1) * s = (rec a).length + k * s by rw [hs, Nat.add_mul]; omega, List.drop_length_add_append]
theorem Reads.take {w : World} {B size n : Nat} {A : Option Addr} {xs : List Value} (h : Reads w B size A n xs) {k : Nat} (hk : k ≤ n) : Reads w B size A k (xs.take (k * size)) := by
  refine ⟨by rw [List.length_take, h.1]; exact Nat.min_eq_left (Nat.mul_le_mul_right _ hk), fun hn => ?_⟩
  obtain ⟨ad, rfl, hb, hc⟩ := h.2 (by omega)
  refine ⟨ad, rfl, hb, fun j u hu => hc j u ?_⟩
  rw [List.getElem?_take] at hu
  split at hu
  · exact hu
  · cases hu
theorem Blk.setCells {g : Nat} {t : TypeId} : ∀ (vs : List Value) {l : List Value} (o : Nat) {w : World}, Blk w g t l.toArray → Blk (w.setCells g o vs) g t (setList l o vs).toArray
  | [], _, _, _, h => h
  | v :: r, l, o, w, h => by
    have h1 := h.set_ o v
    rw [show l.toArray.setIfInBounds o v = (l.set o v).toArray by simp] at h1
    exact Blk.setCells r (o + 1) h1
theorem heap_setCells (g : Nat) : ∀ (vs : List Value) (o : Nat) (w : World) (b : Nat), b ≠ g → (w.setCells g o vs).heap[b]? = w.heap[b]?
  | [], _, _, _, _ => rfl
  | v :: r, o, w, b, h => by
    rw [World.setCells, heap_setCells g r (o + 1) _ b h]
    exact Below.heap_setCell w ⟨g, o, none⟩ v b h
theorem But.setCells {g : Nat} {w : World} : ∀ (vs : List Value) (o : Nat) {w1 : World}, But g w w1 → But g w (w1.setCells g o vs)
  | [], _, _, h => h
  | v :: r, o, _, h => But.setCells r (o + 1) (h.set (p := ⟨g, o, none⟩) rfl v)
/-- clear of a slice of one element -/
theorem run_clear_one {P : Program} (w : World) (t e ty : TypeId) (z : Value) (zs : List Value) (ht : P.underlying t = some (.slice e)) (hv : ∀ w, (zeroValue e).run P w = .ok z w) (hz : z.cells = zs.toArray) (h1 : ∀ v ∈ zs, v.oneCell' = true) (b o c : Nat)
    (hc : ∀ j, j < zs.length → (w.cell? ⟨b, o + j, none⟩).isSome = true) (hf : ∀ j, j < zs.length → w.frozen? ⟨b, o + j, none⟩ = false) :
    (Builtin.clear_ #[t] ty #[.slice (some ⟨b, o, none⟩) 1 c]).run P w = .ok (.tuple #[]) (w.setCells b o zs) := by
  have hzc : (Builtin.zeroCells z.cells 1).toList = zs := by
    rw [hz]
    apply List.ext_getElem
    · simp [Builtin.zeroCells]
    · intro i h1 h2
      simp [Builtin.zeroCells, Nat.mod_eq_of_lt h2, h2]
  have hst := run_storeCells_cells (P := P) b o zs 0 w (by simpa using hc) (by simpa using hf) h1
  simp only [Nat.add_zero] at hst
  simp [Builtin.clear_, run_underlying ht, hv, hzc, hst]

end Go.Proofs.YtlmmgjgkmbmgpaaGreatDoor


/- The contracts of slices.IndexFunc at chunks, of the functions that are handed to it, and of begins and Find. · The contracts of chunks.copied and chunks.changed. · The contract of chunks.changed. · The contracts of slices.Insert and slices.Delete at chunks. · The contract of slices.Delete at chunks: one chunk is taken out in place. · Routes in a variable, whose chunks lie in a row of the call's own. · The contract of chunks.Split. -/
namespace Go.Proofs.YtlmmgjgkmbmgpaaGreatDoor
open Go.RowKit

set_option maxRecDepth 100000 in
set_option maxHeartbeats 1000000 in
theorem indexC_any (f : FuncId) (m : Nat) (p : Ch → Bool) (l : List Ch) (A : Option Addr) (n c : Nat) (w : World) (h : CS w A n c l)
    (hent : ∀ args w, (callFunc f args).run Tryz.prog w = .ok (.enter f args) w)
    (hs : ∀ (x : Ch) (wr : World), Below w.heap.size w wr → Calls Tryz.prog f #[aggC x, .pointer (some ⟨m, 0, none⟩)] wr fun e w' => e = .returned (.bool (p x)) ∧ Below wr.heap.size wr w') :
    Calls Tryz.prog 39 #[.slice A n c, .func (.func f) #[] #[.pointer (some ⟨m, 0, none⟩)]] w fun e w' => e = .returned (.int .i64 (idxI p l)) ∧ Below w.heap.size w w' := by
  have hz : n ≤ 140737488355328 := by have := h.sz; unfold reach at this; omega
  have H := Lib.hid h
  have HS := Lib.hid hs
  clear h hs
  go_enter Tryz.func39, Tryz.ntmps39
  go_wp2_with fail
  go_loopw [8] (fun v wr => ∃ i : Nat, i ≤ n ∧ v = .int .i64 i ∧ idxI p l = idxFrom p (l.drop i) i ∧ Below w.heap.size w wr) (fun v _ => n - (intOf v).toNat)
  case atStart => exact ⟨0, Nat.zero_le _, rfl, rfl, Below.refl _ _⟩
  case round =>
    obtain ⟨i, hi, rfl, ha, hbel⟩ := hrel
    have HA := Lib.hid ha
    have HB := Lib.hid hbel
    clear ha
    by_cases hlt : i < n
    · obtain ⟨b, off, x, hA, hb, hx, e0, e1, e2, e3, e4⟩ := H.out.sr.at5 hlt
      subst hA
      have HX := Lib.hid (idxFrom_at (p := p) hx)
      have g0 := (hbel.cell (p := ⟨b, off + i * 5, none⟩) hb).trans e0
      have g1 := (hbel.cell (p := ⟨b, off + i * 5 + 1, none⟩) hb).trans e1
      have g2 := (hbel.cell (p := ⟨b, off + i * 5 + 2, none⟩) hb).trans e2
      have g3 := (hbel.cell (p := ⟨b, off + i * 5 + 3, none⟩) hb).trans e3
      have g4 := (hbel.cell (p := ⟨b, off + i * 5 + 4, none⟩) hb).trans e4
      clear hx e0 e1 e2 e3 e4 hbel
      go_wp2_with fail
      refine (HS.out x _ HB.out).mono ?_
      rintro e w1 ⟨rfl, hb1⟩
      have HB1 := Lib.hid (HB.out.step' hb1)
      clear hb1 g0 g1 g2 g3 g4
      cases hq : p x
      · have HF : Hid (idxI p l = idxFrom p (l.drop (i + 1)) (i + 1)) := by rw [Hid, HA.out, HX.out, hq]; rfl
        go_wp2_with fail
        go_roundw
        case rel => exact ⟨i + 1, by omega, by go_num, HF.out, HB1.out⟩
        case measure => simp [intOf]; omega
      · have HF : Hid (idxI p l = (i : Int)) := by rw [Hid, HA.out, HX.out, hq]; rfl
        go_wp2_with fail
        go_ret
        exact ⟨by rw [HF.out]; rfl, HB1.out⟩
    · have HF : Hid (idxI p l = -1) := by rw [Hid, HA.out]; exact idxFrom_end (by have := H.out.ln; omega)
      clear hbel
      go_wp2_with fail
      go_ret
      exact ⟨by rw [HF.out]; rfl, HB.out⟩

theorem beg1_any (x : Ch) (m : Nat) (key : ByteArray) (w : World) (h : w.cell? ⟨m, 0, none⟩ = some (.string key)) :
    Calls Tryz.prog 129 #[aggC x, .pointer (some ⟨m, 0, none⟩)] w fun e w' => e = .returned (.bool (begB key x)) ∧ Below w.heap.size w w' := by
  have hm := World.block_lt_of_cell? w _ h
  go_enter Tryz.func129, Tryz.ntmps129
  go_wp2_with fail
  go_ret
  exact ⟨rfl, (Below.refl _ _).alloc (Nat.le_refl _) _⟩
theorem give1_any (x : Ch) (m : Nat) (s : Int) (w : World) (h : w.cell? ⟨m, 0, none⟩ = some (.int .i64 s)) :
    Calls Tryz.prog 89 #[aggC x, .pointer (some ⟨m, 0, none⟩)] w fun e w' => e = .returned (.bool (shB s x)) ∧ Below w.heap.size w w' := by
  have hm := World.block_lt_of_cell? w _ h
  go_enter Tryz.func89, Tryz.ntmps89
  go_wp2_with fail
  go_ret
  exact ⟨rfl, (Below.refl _ _).alloc (Nat.le_refl _) _⟩
set_option maxRecDepth 100000 in
theorem begins_any (R : Ro) (a : RA) (key : ByteArray) (w : World) (h : RR w a R) :
    Calls Tryz.prog 87 #[rval a R, .string key] w fun e w' => e = .returned (.int .i64 (idxI (begB key) R.cs)) ∧ Below w.heap.size w w' := by
  have HA2 := Lib.hid (((Below.refl w.heap.size w).alloc (Nat.le_refl _) (Obj.cells (rarr a R) 27)).alloc (by simp) (Obj.cells #[.string key] 9))
  have HB : Hid (Blk ((w.alloc (Obj.cells (rarr a R) 27)).alloc (Obj.cells #[.string key] 9)) (w.heap.size + 1) 9 #[.string key]) := Blk.new_at (by simp)
  have H := Lib.hid h
  clear h
  go_enter Tryz.func87, Tryz.ntmps87
  go_wp2_with fail
  refine (indexC_any _ _ (begB key) R.cs _ _ _ _ (H.out.cs.step HA2.out) (fun _ _ => rfl) fun x wr hb => beg1_any x _ key wr (((HB.out.step hb).cell 0))).mono ?_
  rintro e w1 ⟨rfl, hb1⟩
  go_wp2_with fail
  go_ret
  exact ⟨rfl, HA2.out.step' hb1⟩
end Go.Proofs.YtlmmgjgkmbmgpaaGreatDoor

namespace Go.Proofs.YtlmmgjgkmbmgpaaGreatDoor
open Go.RowKit

theorem flat_setj {α : Type} {rec : α → List Value} {s : Nat} (hs : ∀ a, (rec a).length = s) : ∀ {xs : List α} {i j : Nat} {a a' : α} {v : Value}, xs[i]? = some a → j < s → (rec a).set j v = rec a' → (flat rec xs).set (i * s + j) v = flat rec (xs.set i a') := by
  intro xs
  induction xs with
  | nil => intro i j a a' v h; simp at h
  | cons b l ih =>
    intro i j a a' v h1 hj h2
    have e : ∀ (y : α) (t : List α), flat rec (y :: t) = rec y ++ flat rec t := fun _ _ => rfl
    cases i with
    | zero =>
      simp at h1
      subst h1
      rw [Nat.zero_mul, Nat.zero_add, List.set_cons_zero, e, e, List.set_append_left _ _ (by rw [hs]; exact hj), h2]
    | succ i =>
      rw [List.set_cons_succ, e, e, List.set_append_right _ _ (by rw [hs, Nat.add_mul]; omega), hs, show (i + 1) * s + j - s = i * s + j by rw [Nat.add_mul]; omega, ih (by simpa using h1) hj h2]
/-- a store into a row of the call's own -/
theorem own_set {w : World} {base : Nat} {e : TypeId} {size n c g : Nat} {xs : List Value} (h : w.ownsRow base e size (.slice (some ⟨g, 0, none⟩) n c) n xs) (k : Nat) (u : Value) :
    (w.setCell ⟨g, k, none⟩ u).ownsRow base e size (.slice (some ⟨g, 0, none⟩) n c) n (xs.set k u) := by
  refine ⟨by rw [List.length_set]; exact h.1, ?_⟩
  rcases h.2 with ⟨h1, _⟩ | ⟨g', cap, cur, hv, hg, hh, hnc, hm, hsz, htk⟩
  · cases h1
  · injection hv with h1 h2 h3
    injection h1 with h1
    injection h1 with h1
    subst h1 h3
    have hb : Blk w g e cur := hh
    refine .inr ⟨g, c, cur.setIfInBounds k u, rfl, hg, hb.set_ k u, hnc, hm, by simpa using hsz, ?_⟩
    rw [Array.toList_setIfInBounds, List.take_set, htk]
theorem own_cell {w : World} {base : Nat} {e : TypeId} {size n c g : Nat} {xs : List Value} (h : w.ownsRow base e size (.slice (some ⟨g, 0, none⟩) n c) n xs) {k : Nat} {u : Value} (hk : xs[k]? = some u) : w.cell? ⟨g, k, none⟩ = some u ∧ w.frozen? ⟨g, k, none⟩ = false := by
  have := h.cells (g := g) rfl k u hk
  rw [addr_add, Nat.zero_add] at this
  refine ⟨this, ?_⟩
  rcases h.2 with ⟨h1, _⟩ | ⟨g', cap, cur, hv, hg, hh, _⟩
  · cases h1
  · injection hv with h1
    injection h1 with h1
    injection h1 with h1
    subst h1
    exact Blk.frozen (t := e) (cs := cur) hh k
theorem own_mono {w : World} {base base' : Nat} {e : TypeId} {size n : Nat} {v : Value} {xs : List Value} (h : w.ownsRow base e size v n xs) (hb : base' ≤ base) : w.ownsRow base' e size v n xs := by
  refine ⟨h.1, ?_⟩
  rcases h.2 with h2 | ⟨g, cap, cur, hv, hg, hr⟩
  · exact .inl h2
  · exact .inr ⟨g, cap, cur, hv, by omega, hr⟩
theorem own_far {w : World} {base : Nat} {e : TypeId} {size n : Nat} {v : Value} {xs : List Value} (h : w.ownsRow base e size v n xs) {p : Addr} (hp : v.ownBlock ≠ some p.block) (u : Value) : (w.setCell p u).ownsRow base e size v n xs :=
  own_keep h fun g hg => Below.heap_setCell w p u g (fun e => hp (by rw [← e]; exact hg))

/-- footprints -/
structure STF (F : Nat → Prop) (w : World) (A : Option Addr) (n c : Nat) (l : List ByteArray) : Prop where
  st : ST w A n c l
  blk : 0 < n → ∀ b off, A = some ⟨b, off, none⟩ → F b
theorem ST.keep {w w' : World} {A : Option Addr} {n c : Nat} {l : List ByteArray} (h : ST w A n c l) (hs : w.heap.size ≤ w'.heap.size) (hk : 0 < n → ∀ b off, A = some ⟨b, off, none⟩ → w'.heap[b]? = w.heap[b]?) : ST w' A n c l := by
  refine ⟨⟨h.sr.ln, h.sr.lc, fun hn => ?_⟩, h.sz, h.el⟩
  obtain ⟨b, off, h1, h2, h3⟩ := h.sr.el hn
  exact ⟨b, off, h1, by omega, fun i a hi j v hj => (World.cell?_of_block (w := w) (a := ⟨b, off + i * 1 + j, none⟩) (hk hn b off h1)).trans (h3 i a hi j v hj)⟩
theorem STF.keep {F G : Nat → Prop} {w w' : World} {A : Option Addr} {n c : Nat} {l : List ByteArray} (h : STF F w A n c l) (hs : w.heap.size ≤ w'.heap.size) (hk : ∀ b, F b → b < w.heap.size → G b ∧ w'.heap[b]? = w.heap[b]?) : STF G w' A n c l := by
  have hlt : 0 < n → ∀ b off, A = some ⟨b, off, none⟩ → b < w.heap.size := by
    intro hn b off e
    obtain ⟨b', off', h1, h2, _⟩ := h.st.sr.el hn
    rw [e] at h1
    cases h1
    exact h2
  exact ⟨h.st.keep hs fun hn b off e => (hk b (h.blk hn b off e) (hlt hn b off e)).2, fun hn b off e => (hk b (h.blk hn b off e) (hlt hn b off e)).1⟩
structure ORF (F : Nat → Prop) (w : World) (o : OC) (q : Od) : Prop where
  d : o.d = q.d
  st : STF F w o.A o.n o.c q.p
theorem ORF.keep {F G : Nat → Prop} {w w' : World} {o : OC} {q : Od} (h : ORF F w o q) (hs : w.heap.size ≤ w'.heap.size) (hk : ∀ b, F b → b < w.heap.size → G b ∧ w'.heap[b]? = w.heap[b]?) : ORF G w' o q := ⟨h.d, h.st.keep hs hk⟩
def KSF (F : Nat → Prop) (w : World) (A : Option Addr) (n c : Nat) (ks : List Od) : Prop :=
  ∃ os : List OC, SR 2 recO w A n c os ∧ n * 32 ≤ reach ∧ os.length = ks.length ∧ (0 < n → ∀ b off, A = some ⟨b, off, none⟩ → F b) ∧ ∀ (i : Nat) (o : OC) (q : Od), os[i]? = some o → ks[i]? = some q → ORF F w o q
theorem KSF.ks {F : Nat → Prop} {w : World} {A : Option Addr} {n c : Nat} {ks : List Od} (h : KSF F w A n c ks) : KS w A n c ks := by
  obtain ⟨os, h1, h2, h3, h4, h5⟩ := h
  exact ⟨os, h1, h2, h3, fun i o q hi hq => ⟨(h5 i o q hi hq).d, (h5 i o q hi hq).st.st⟩⟩
theorem KSF.keep {F G : Nat → Prop} {w w' : World} {A : Option Addr} {n c : Nat} {ks : List Od} (h : KSF F w A n c ks) (hs : w.heap.size ≤ w'.heap.size) (hk : ∀ b, F b → b < w.heap.size → G b ∧ w'.heap[b]? = w.heap[b]?) : KSF G w' A n c ks := by
  obtain ⟨os, h1, h2, h3, h4, h5⟩ := h
  have hlt : 0 < n → ∀ b off, A = some ⟨b, off, none⟩ → b < w.heap.size := by
    intro hn b off e
    obtain ⟨b', off', k1, k2, _⟩ := h1.el hn
    rw [e] at k1
    cases k1
    exact k2
  refine ⟨os, ⟨h1.ln, h1.lc, fun hn => ?_⟩, h2, h3, fun hn b off e => (hk b (h4 hn b off e) (hlt hn b off e)).1, fun i o q hi hq => (h5 i o q hi hq).keep hs hk⟩
  obtain ⟨b, off, k1, k2, k3⟩ := h1.el hn
  exact ⟨b, off, k1, by omega, fun i a hi j v hj => (World.cell?_of_block (w := w) (a := ⟨b, off + i * 2 + j, none⟩) (hk b (h4 hn b off k1) k2).2).trans (k3 i a hi j v hj)⟩
theorem KS.toF {w : World} {A : Option Addr} {n c : Nat} {ks : List Od} (h : KS w A n c ks) : KSF (fun b => b < w.heap.size) w A n c ks := by
  obtain ⟨os, h⟩ := h
  refine ⟨os, h.sr, h.sz, h.ln, fun hn b off e => ?_, fun i o q hi hq => ⟨(h.el i o q hi hq).d, (h.el i o q hi hq).st, fun hn b off e => ?_⟩⟩
  · obtain ⟨b', off', k1, k2, _⟩ := h.sr.el hn
    rw [e] at k1
    cases k1
    exact k2
  · obtain ⟨b', off', k1, k2, _⟩ := (h.el i o q hi hq).st.sr.el hn
    rw [e] at k1
    cases k1
    exact k2

/-- six stores -/
abbrev setR (w : World) (g : Nat) (a : RA) (R : Ro) : World :=
  (((((w.setCell ⟨g, 0, none⟩ (.string R.sp)).setCell ⟨g, 1, none⟩ (.slice a.KA a.kn a.kc)).setCell ⟨g, 2, none⟩ (.bool R.ha)).setCell ⟨g, 3, none⟩ (.int .i64 R.ep)).setCell ⟨g, 4, none⟩ (.int .i64 R.ver)).setCell ⟨g, 5, none⟩ (.slice a.CA a.cn a.cc)
theorem Blk.putR {w : World} {g : Nat} {t : TypeId} {a b : RA} {R S : Ro} (h : Blk w g t (rarr b S)) : Blk (setR w g a R) g t (rarr a R) := (((((h.set_ 0 _).set_ 1 _).set_ 2 _).set_ 3 _).set_ 4 _).set_ 5 _
theorem heap_setR (w : World) (g : Nat) (a : RA) (R : Ro) (b : Nat) (h : b ≠ g) : (setR w g a R).heap[b]? = w.heap[b]? := by
  unfold setR
  iterate 6 rw [Below.heap_setCell _ _ _ b h]
theorem size_setR (w : World) (g : Nat) (a : RA) (R : Ro) : (setR w g a R).heap.size = w.heap.size := by simp [setR, World.setCell]
theorem below_setR {B : Nat} {a0 w : World} (h : Below B a0 w) {g : Nat} (hB : B ≤ g) (a : RA) (R : Ro) : Below B a0 (setR w g a R) :=
  (((((h.setCell hB _).setCell hB _).setCell hB _).setCell hB _).setCell hB _).setCell hB _

theorem load_ro (g : Nat) (a : RA) (R : Ro) (W : World) (q : Blk W g 27 (rarr a R)) : (loadVar 27 ⟨g, 0, none⟩).run Tryz.prog W = .ok (rval a R) W := by
  have q0 := q.cell 0
  have q1 := q.cell 1
  have q2 := q.cell 2
  have q3 := q.cell 3
  have q4 := q.cell 4
  have q5 := q.cell 5
  simp at q0 q1 q2 q3 q4 q5
  simp [go_sem, q0, q1, q2, q3, q4, q5]
theorem results_ro {fn : Func} {p : Tmp} (h : fn.results = #[.cell p 27]) (tmps : Array Value) (g1 : Nat) (h1 : tmps[p]?.getD undef = .pointer (some ⟨g1, 0, none⟩)) (W : World) (a : RA) (R : Ro) (q : Blk W g1 27 (rarr a R)) :
    (results fn tmps).run Tryz.prog W = .ok (rval a R) W := by
  have := load_ro g1 a R W q
  simp [results, h, h1, asAddr, this]
theorem results_ro_err {fn : Func} {p u : Tmp} (h : fn.results = #[.cell p 27, .tmp u]) (tmps : Array Value) (g1 : Nat) (h1 : tmps.getD p undef = .pointer (some ⟨g1, 0, none⟩)) (e : Value) (h2 : tmps.getD u undef = e)
    (W : World) (a : RA) (R : Ro) (q : Blk W g1 27 (rarr a R)) : (results fn tmps).run Tryz.prog W = .ok (.tuple #[rval a R, e]) W := by
  rw [results_cell_tmp h, h1, h2]
  simp [asAddr, load_ro g1 a R W q]

/-- the state of copied's loop -/
structure Cpy (B : Nat) (w : World) (a : RA) (R : Ro) (A : Option Addr) (c : Nat) (os : List OC) (wr : World) : Prop where
  b0 : Blk wr w.heap.size 27 (rarr ⟨A, a.kn, c, a.CA, a.cn, a.cc⟩ R)
  b1 : Blk wr (w.heap.size + 1) 27 (rarr RA.zero Ro.zero)
  own : wr.ownsRow (w.heap.size + 2) 130 2 (.slice A a.kn c) a.kn (flat recO os)
  ln : os.length = a.kn
  el : ∀ (i : Nat) (o : OC) (q : Od), os[i]? = some o → R.ks[i]? = some q → ORF (fun b => (b < B ∨ w.heap.size + 2 ≤ b) ∧ (Value.slice A a.kn c).ownBlock ≠ some b) wr o q
  bel : Below w.heap.size w wr
theorem Cpy.step {B : Nat} {w wr w1 : World} {a : RA} {R : Ro} {A : Option Addr} {c : Nat} {os : List OC} (h : Cpy B w a R A c os wr) (hb : Below wr.heap.size wr w1) : Cpy B w a R A c os w1 :=
  ⟨h.b0.step hb, h.b1.step hb, own_step h.own hb, h.ln, fun i o q hi hq => (h.el i o q hi hq).keep hb.size fun b hF hlt => ⟨hF, hb.block b hlt⟩, h.bel.step' hb⟩
theorem Cpy.next {B : Nat} {w wr : World} {a : RA} {R : Ro} {g c : Nat} {os : List OC} (h : Cpy B w a R (some ⟨g, 0, none⟩) c os wr) {i : Nat} {o : OC} {q : Od} (hi : os[i]? = some o) (hq : R.ks[i]? = some q) {A : Option Addr} {n k : Nat}
    (hst : STF (fun b => w.heap.size + 2 ≤ b ∧ b ≠ g) wr A n k q.p) : Cpy B w a R (some ⟨g, 0, none⟩) c (os.set i ⟨A, n, k, o.d⟩) (wr.setCell ⟨g, i * 2, none⟩ (.slice A n k)) := by
  have hg : w.heap.size + 2 ≤ g := own_ge h.own g rfl
  have hown := own_set h.own (i * 2) (.slice A n k)
  rw [show i * 2 = i * 2 + 0 by rfl, flat_setj recO_length hi (by omega) (a' := ⟨A, n, k, o.d⟩) rfl] at hown
  refine ⟨h.b0.far (by show w.heap.size ≠ g; omega) _, h.b1.far (by show w.heap.size + 1 ≠ g; omega) _, hown, by rw [List.length_set]; exact h.ln, fun j o' q' hj hq' => ?_, h.bel.setCell (by show w.heap.size ≤ g; omega) _⟩
  rw [List.getElem?_set] at hj
  split at hj
  · rename_i e
    subst e
    split at hj
    · injection hj with hj
      subst hj
      rw [hq] at hq'
      injection hq' with hq'
      subst hq'
      exact ⟨(h.el i o q hi hq).d, hst.keep (by simp [World.setCell]) fun b hF _ => ⟨⟨.inr hF.1, by simp [Value.ownBlock]; exact fun e => hF.2 e.symm⟩, Below.heap_setCell _ _ _ b hF.2⟩⟩
    · cases hj
  · exact (h.el j o' q' hj hq').keep (by simp [World.setCell]) fun b hF _ => ⟨hF, Below.heap_setCell _ _ _ b fun e => hF.2 (by simp [Value.ownBlock]; exact e.symm)⟩

/-- what a copy of routes is: the chunks lie in a row of its own -/
def CopOk (B : Nat) (w : World) (R : Ro) (e : Ending) (w' : World) : Prop :=
  ∃ a : RA, e = .returned (rval a R) ∧ KSF (fun b => (b < B ∨ w.heap.size ≤ b) ∧ (Value.slice a.CA a.cn a.cc).ownBlock ≠ some b) w' a.KA a.kn a.kc R.ks ∧ w'.ownsRow w.heap.size 80 5 (.slice a.CA a.cn a.cc) a.cn (flat recC R.cs) ∧ a.cn = R.cs.length ∧ a.cn * 56 ≤ reach ∧ Below w.heap.size w w'

set_option maxRecDepth 100000 in
set_option maxHeartbeats 2000000 in
theorem copied_any (B : Nat) (R : Ro) (a : RA) (w : World) (hB : B ≤ w.heap.size) (hk : KSF (fun b => b < B) w a.KA a.kn a.kc R.ks) (hc : CS w a.CA a.cn a.cc R.cs) : Calls Tryz.prog 130 #[rval a R] w (CopOk B w R) := by
  obtain ⟨KA, kn, kc, CA, cn, cc⟩ := a
  have hln := Lib.hid hk.ks.ln
  have HCS := Lib.hid hc
  obtain ⟨os, hkz, hkl, hkb, hke⟩ := hk
  obtain ⟨hkz, hsr⟩ : kn * 32 ≤ reach ∧ SR 2 recO w KA kn kc os := ⟨hkl, hkz⟩
  have hkn : kn ≤ 140737488355328 := by unfold reach at hkz; omega
  have HSR := Lib.hid hsr
  have HKZ := Lib.hid hkz
  have HKL := Lib.hid hkb
  have HKE := Lib.hid hke.2
  clear hc hkl hkb hke hsr hkz
  have B0 : Hid (Blk ((w.alloc (Obj.cells (rarr ⟨KA, kn, kc, CA, cn, cc⟩ R) 27)).alloc (Obj.cells (rarr RA.zero Ro.zero) 27)) w.heap.size 27 (rarr ⟨KA, kn, kc, CA, cn, cc⟩ R)) := (Blk.new_at rfl).alloc _
  have B1 : Hid (Blk ((w.alloc (Obj.cells (rarr ⟨KA, kn, kc, CA, cn, cc⟩ R) 27)).alloc (Obj.cells (rarr RA.zero Ro.zero) 27)) (w.heap.size + 1) 27 (rarr RA.zero Ro.zero)) := Blk.new_at (by simp)
  have BE : Hid (Below w.heap.size w ((w.alloc (Obj.cells (rarr ⟨KA, kn, kc, CA, cn, cc⟩ R) 27)).alloc (Obj.cells (rarr RA.zero Ro.zero) 27))) := ((Below.refl _ _).alloc (Nat.le_refl _) _).alloc (by simp) _
  go_enter Tryz.func130, Tryz.ntmps130
  go_upto_region 1 with fail
  change (Code.region 1 _ _).wp _ _ _ ((w.alloc (Obj.cells (rarr ⟨KA, kn, kc, CA, cn, cc⟩ R) 27)).alloc (Obj.cells (rarr RA.zero Ro.zero) 27))
  have hsz : ((w.alloc (Obj.cells (rarr ⟨KA, kn, kc, CA, cn, cc⟩ R) 27)).alloc (Obj.cells (rarr RA.zero Ro.zero) 27)).heap.size = w.heap.size + 2 := by simp
  generalize (w.alloc (Obj.cells (rarr ⟨KA, kn, kc, CA, cn, cc⟩ R) 27)).alloc (Obj.cells (rarr RA.zero Ro.zero) 27) = wa at *
  have HSZ := Lib.hid hsz
  clear hsz
  have q1 := B0.out.cell 1
  simp at q1
  go_wp2_with fail
  refine (cloneO_any os _ _ _ _ (HSR.out.step BE.out) HKZ.out).mono ?_
  rintro e w1 ⟨v, rfl, hown, hb1⟩
  obtain ⟨A1, c1, rfl, hle1⟩ := own_slice hown
  have g0 := B0.out.step hb1
  have g1 := B1.out.step hb1
  have z1 := g0.frozen 1
  have y1 := g0.cell 1
  simp at y1
  rw [HSZ.out] at hown
  have I0 : Hid (Cpy B w ⟨KA, kn, kc, CA, cn, cc⟩ R A1 c1 os (w1.setCell ⟨w.heap.size, 1, none⟩ (.slice A1 kn c1))) := by
    have hne : (Value.slice A1 kn c1).ownBlock ≠ some w.heap.size := own_ne hown (by omega)
    refine ⟨g0.set_ 1 _, g1.far (by show w.heap.size + 1 ≠ w.heap.size; omega) _, own_far hown hne _, by have := HSR.out.ln; exact this.symm, fun i o q hi hq => ?_, (BE.out.step' hb1).setCell (Nat.le_refl _) _⟩
    exact (HKE.out i o q hi hq).keep (by have := (BE.out.step' hb1).size; simpa [World.setCell] using this) fun b hF _ => ⟨⟨.inl hF, own_ne hown (by omega)⟩, by rw [Below.heap_setCell _ _ _ b (by show b ≠ w.heap.size; omega)]; exact (BE.out.step' hb1).block b (by omega)⟩
  clear q1 g0 g1 hown hb1 B0 B1
  go_upto_region 2 with fail
  clear z1 y1
  generalize w1.setCell ⟨w.heap.size, 1, none⟩ (.slice A1 kn c1) = w2 at *
  have q1 := I0.out.b0.cell 1
  simp at q1
  go_wp2_with fail
  clear q1
  go_loopw [14, 3] (fun v14 v3 wr => ∃ (i : Nat) (os' : List OC), i ≤ kn ∧ v14 = .int .i64 i ∧ Cpy B w ⟨KA, kn, kc, CA, cn, cc⟩ R A1 c1 os' wr) (fun v14 _ _ => kn - (intOf v14).toNat)
  case atStart => exact ⟨0, os, Nat.zero_le _, rfl, I0.out⟩
  case round =>
    obtain ⟨i, os', hi, rfl, I⟩ := hrel
    have J := Lib.hid I
    have hbn : w.heap.size < wr.heap.size := I.b0.lt
    by_cases hlt : i < kn
    · obtain ⟨o, ho⟩ : ∃ o, os'[i]? = some o := ⟨_, List.getElem?_eq_getElem (by rw [I.ln]; exact hlt)⟩
      obtain ⟨q, hq⟩ : ∃ q, R.ks[i]? = some q := ⟨_, List.getElem?_eq_getElem (by have := hln.out; omega)⟩
      obtain ⟨g, cap, hv, hgb, hgl⟩ := I.own.form (by show 0 < kn; omega)
      have hv : A1 = some ⟨g, 0, none⟩ := by injection hv
      subst hv
      have r0 := (own_cell I.own (flat_get recO_length ho (j := 0) rfl)).1
      simp only [Nat.add_zero] at r0
      have q1 := I.b0.cell 1
      simp at q1
      have HOR := Lib.hid (I.el i o q ho hq)
      have HO := Lib.hid ho
      have HQ := Lib.hid hq
      have HGB := Lib.hid hgb
      obtain ⟨oA, on, oc, od⟩ := o
      simp only at r0
      have hi0 : (0 : Int) ≤ (i : Int) := by omega
      have hi1 : (i : Int) < (kn : Int) := by omega
      clear ho hq hgb I
      go_upto_region 5 with fail
      go_region_law ((go_simp; go_at_call 169; refine (cloneT_any q.p _ _ _ _ (HOR.out.st.st.step ((Below.refl _ _).drewN 1)).sr HOR.out.st.st.sz).mono ?_; rintro e w3 ⟨v, rfl, hown, hb3⟩; replace hb3 : Below wr.heap.size wr w3 := hb3.undrewN; replace hown : w3.ownsRow wr.heap.size 9 1 v on (flat recT q.p) := hown; obtain ⟨A2, c2, hv2, hsr2⟩ := SR.of_own recT_length hown (by have := HOR.out.st.st.sr.ln; exact this.symm); have hge := own_ge hown; rw [hv2] at hge ⊢; have s0 := (hb3.cell (p := ⟨w.heap.size, 1, none⟩) J.out.b0.lt).trans q1; have s1 := (hb3.cell (p := ⟨g, i * 2, none⟩) hgl).trans r0; have LX := Lib.hid (J.out.step hb3); have z : w3.frozen? ⟨g, i * 2, none⟩ = false := (own_cell LX.out.own (flat_get recO_length HO.out (j := 0) rfl)).2; have HG := Lib.hid hge; have HR2 := Lib.hid hsr2; clear hb3 hown hv2 hge hsr2))
      all_goals
        clear s0 s1 z q1 r0
        go_wp2_with fail
        go_roundw
        case rel => exact ⟨i + 1, _, by omega, by go_num, LX.out.next HO.out HQ.out ⟨⟨HR2.out, HOR.out.st.st.sz, HOR.out.st.st.el⟩, fun hn b off e => by have := HG.out b (by rw [e]; rfl); have := J.out.b1.lt; exact ⟨by omega, by omega⟩⟩⟩
        case measure => simp [intOf]; omega
    · have hik : i = kn := by omega
      have q5 := I.b0.cell 5
      simp at q5
      go_upto_region 7 with fail
      go_wp2_with fail
      refine (cloneC_any R.cs _ _ _ _ (HCS.out.sr.step I.bel) HCS.out.sz).mono ?_
      rintro e w3 ⟨v, rfl, hown, hb3⟩
      obtain ⟨A3, c3, rfl, hle3⟩ := own_slice hown
      have LX := Lib.hid (I.step hb3)
      have z5 := LX.out.b0.frozen 5
      have y5 := LX.out.b0.cell 5
      simp at y5
      have hgel := own_ge hown
      have hbs := I.b1.lt
      have D0 : Hid (Blk (w3.setCell ⟨w.heap.size, 5, none⟩ (.slice A3 cn c3)) w.heap.size 27 (rarr ⟨A1, kn, c1, A3, cn, c3⟩ R)) := LX.out.b0.set_ 5 _
      have D1 : Hid (Blk (w3.setCell ⟨w.heap.size, 5, none⟩ (.slice A3 cn c3)) (w.heap.size + 1) 27 (rarr RA.zero Ro.zero)) := LX.out.b1.far (by show w.heap.size + 1 ≠ w.heap.size; omega) _
      have DO := Lib.hid (own_far hown (p := ⟨w.heap.size, 5, none⟩) (fun e => by have := hgel _ e; simp only at this; omega) (.slice A3 cn c3))
      have DB : Hid (Below w.heap.size w (w3.setCell ⟨w.heap.size, 5, none⟩ (.slice A3 cn c3))) := LX.out.bel.setCell (Nat.le_refl _) _
      have DK : Hid (KSF (fun b => (b < B ∨ w.heap.size + 2 ≤ b) ∧ (Value.slice A3 cn c3).ownBlock ≠ some b) (w3.setCell ⟨w.heap.size, 5, none⟩ (.slice A3 cn c3)) A1 kn c1 R.ks) := by
        have hK : KSF (fun b => b < B ∨ w.heap.size + 2 ≤ b) wr A1 kn c1 R.ks := by
          obtain ⟨A', c', hv, hsr⟩ := SR.of_own recO_length I.own I.ln
          injection hv with h1 h2 h3
          subst h1 h3
          refine ⟨os', hsr, HKZ.out, by rw [I.ln]; exact hln.out, fun hn b off e => ?_, fun i o q hi hq => (I.el i o q hi hq).keep (Nat.le_refl _) fun b hF _ => ⟨hF.1, rfl⟩⟩
          have := own_ge I.own b (by rw [e]; rfl)
          omega
        exact hK.keep (by have := hb3.size; simpa using this) fun b hF hlt => ⟨⟨hF, fun e => by have := hgel _ e; omega⟩, by rw [Below.heap_setCell _ _ _ b (by show b ≠ w.heap.size; omega)]; exact hb3.block b hlt⟩
      clear q5 hown hb3 hle3 I J hgel
      go_upto_region 8 with fail
      clear z5 y5
      generalize w3.setCell ⟨w.heap.size, 5, none⟩ (.slice A3 cn c3) = w4 at *
      have q0 := D0.out.cell 0
      have q1 := D0.out.cell 1
      have q2 := D0.out.cell 2
      have q3 := D0.out.cell 3
      have q4 := D0.out.cell 4
      have q5 := D0.out.cell 5
      have r0 := D1.out.cell 0
      have r1 := D1.out.cell 1
      have r2 := D1.out.cell 2
      have r3 := D1.out.cell 3
      have r4 := D1.out.cell 4
      have r5 := D1.out.cell 5
      have z := D1.out.frozen
      simp at q0 q1 q2 q3 q4 q5 r0 r1 r2 r3 r4 r5
      have E0 := Lib.hid (D1.out.putR (a := ⟨A1, kn, c1, A3, cn, c3⟩) (R := R))
      have E1 : Hid (KSF (fun b => (b < B ∨ w.heap.size ≤ b) ∧ (Value.slice A3 cn c3).ownBlock ≠ some b) (setR w4 (w.heap.size + 1) ⟨A1, kn, c1, A3, cn, c3⟩ R) A1 kn c1 R.ks) :=
        DK.out.keep (by rw [size_setR]; exact Nat.le_refl _) fun b hF _ => ⟨⟨by omega, hF.2⟩, heap_setR _ _ _ _ b (by omega)⟩
      have E2 : Hid ((setR w4 (w.heap.size + 1) ⟨A1, kn, c1, A3, cn, c3⟩ R).ownsRow w.heap.size 80 5 (.slice A3 cn c3) cn (flat recC R.cs)) :=
        own_mono (own_keep DO.out fun g hg => heap_setR _ _ _ _ g (by have := own_ge DO.out g hg; omega)) (by omega)
      have E3 : Hid (Below w.heap.size w (setR w4 (w.heap.size + 1) ⟨A1, kn, c1, A3, cn, c3⟩ R)) := below_setR DB.out (by omega) _ _
      clear DK DO DB D0 D1
      go_wp2_with fail
      clear q0 q1 q2 q3 q4 q5 r0 r1 r2 r3 r4 r5 z
      refine bodyPost_ret (results_ro rfl _ (w.heap.size + 1) rfl _ ⟨A1, kn, c1, A3, cn, c3⟩ R E0.out) rfl ?_
      exact ⟨⟨A1, kn, c1, A3, cn, c3⟩, rfl, E1.out, E2.out, HCS.out.ln, HCS.out.sz, E3.out⟩

end Go.Proofs.YtlmmgjgkmbmgpaaGreatDoor

namespace Go.Proofs.YtlmmgjgkmbmgpaaGreatDoor
open Go.RowKit

/-- routes that were copied, with the next version -/
def Ro.nx (R : Ro) : Ro := ⟨R.sp, R.ks, R.ha, R.ep, Go.Proofs.YtlmmgjgkmbmgpaaGreatDoor.nx R.ver, R.cs⟩
set_option maxRecDepth 100000 in
set_option maxHeartbeats 400000 in
theorem changed_any (B : Nat) (R : Ro) (a : RA) (w : World) (hB : B ≤ w.heap.size) (hk : KSF (fun b => b < B) w a.KA a.kn a.kc R.ks) (hc : CS w a.CA a.cn a.cc R.cs) : Calls Tryz.prog 88 #[rval a R] w (CopOk B w R.nx) := by
  obtain ⟨KA, kn, kc, CA, cn, cc⟩ := a
  have HK := Lib.hid hk
  have HC := Lib.hid hc
  clear hk hc
  have B0 : Hid (Blk ((w.alloc (Obj.cells (rarr ⟨KA, kn, kc, CA, cn, cc⟩ R) 27)).alloc (Obj.cells (rarr RA.zero Ro.zero) 27)) w.heap.size 27 (rarr ⟨KA, kn, kc, CA, cn, cc⟩ R)) := (Blk.new_at rfl).alloc _
  have B1 : Hid (Blk ((w.alloc (Obj.cells (rarr ⟨KA, kn, kc, CA, cn, cc⟩ R) 27)).alloc (Obj.cells (rarr RA.zero Ro.zero) 27)) (w.heap.size + 1) 27 (rarr RA.zero Ro.zero)) := Blk.new_at (by simp)
  have BE : Hid (Below w.heap.size w ((w.alloc (Obj.cells (rarr ⟨KA, kn, kc, CA, cn, cc⟩ R) 27)).alloc (Obj.cells (rarr RA.zero Ro.zero) 27))) := ((Below.refl _ _).alloc (Nat.le_refl _) _).alloc (by simp) _
  go_enter Tryz.func88, Tryz.ntmps88
  go_upto_region 1 with fail
  change (Code.region 1 _ _).wp _ _ _ ((w.alloc (Obj.cells (rarr ⟨KA, kn, kc, CA, cn, cc⟩ R) 27)).alloc (Obj.cells (rarr RA.zero Ro.zero) 27))
  have hsz : ((w.alloc (Obj.cells (rarr ⟨KA, kn, kc, CA, cn, cc⟩ R) 27)).alloc (Obj.cells (rarr RA.zero Ro.zero) 27)).heap.size = w.heap.size + 2 := by simp
  generalize (w.alloc (Obj.cells (rarr ⟨KA, kn, kc, CA, cn, cc⟩ R) 27)).alloc (Obj.cells (rarr RA.zero Ro.zero) 27) = wa at *
  have HSZ := Lib.hid hsz
  clear hsz
  have q0 := B0.out.cell 0
  have q1 := B0.out.cell 1
  have q2 := B0.out.cell 2
  have q3 := B0.out.cell 3
  have q4 := B0.out.cell 4
  have q5 := B0.out.cell 5
  simp at q0 q1 q2 q3 q4 q5
  go_wp2_with fail
  clear q0 q1 q2 q3 q4 q5
  refine (copied_any B R ⟨KA, kn, kc, CA, cn, cc⟩ wa (by have := HSZ.out; omega) (HK.out.keep (by have := HSZ.out; omega) fun b hF hlt => ⟨hF, BE.out.block b hlt⟩) (HC.out.step BE.out)).mono ?_
  rintro e w1 ⟨⟨KA', kn', kc', CA', cn', cc'⟩, rfl, hks, hown, hln, hcz, hb1⟩
  rw [HSZ.out] at hks hown hb1
  have HLN := Lib.hid hln
  have HCZ := Lib.hid hcz
  clear hln hcz
  have g0 := B0.out.below hb1 (by omega)
  have g1 := B1.out.below hb1 (by omega)
  have z := g0.frozen
  obtain ⟨y0, y1, y2, y3, y4, y5⟩ : w1.cell? ⟨w.heap.size, 0, none⟩ = some (.string R.sp) ∧ w1.cell? ⟨w.heap.size, 1, none⟩ = some (.slice KA kn kc) ∧ w1.cell? ⟨w.heap.size, 2, none⟩ = some (.bool R.ha) ∧ w1.cell? ⟨w.heap.size, 3, none⟩ = some (.int .i64 R.ep) ∧ w1.cell? ⟨w.heap.size, 4, none⟩ = some (.int .i64 R.ver) ∧ w1.cell? ⟨w.heap.size, 5, none⟩ = some (.slice CA cn cc) := by
    refine ⟨?_, ?_, ?_, ?_, ?_, ?_⟩ <;> rw [g0.cell] <;> rfl
  have hgel := own_ge hown
  have D0 : Hid (Blk ((setR w1 w.heap.size ⟨KA', kn', kc', CA', cn', cc'⟩ R).setCell ⟨w.heap.size, 4, none⟩ (.int .i64 (nx R.ver))) w.heap.size 27 (rarr ⟨KA', kn', kc', CA', cn', cc'⟩ R.nx)) := (g0.putR (a := ⟨KA', kn', kc', CA', cn', cc'⟩) (R := R)).set_ 4 _
  have hpt : ∀ b, b ≠ w.heap.size → ((setR w1 w.heap.size ⟨KA', kn', kc', CA', cn', cc'⟩ R).setCell ⟨w.heap.size, 4, none⟩ (.int .i64 (nx R.ver))).heap[b]? = w1.heap[b]? := fun b h => by
    rw [Below.heap_setCell _ _ _ b h]; exact heap_setR _ _ _ _ b h
  have hps : ((setR w1 w.heap.size ⟨KA', kn', kc', CA', cn', cc'⟩ R).setCell ⟨w.heap.size, 4, none⟩ (.int .i64 (nx R.ver))).heap.size = w1.heap.size := by simp
  have D1 : Hid (Blk ((setR w1 w.heap.size ⟨KA', kn', kc', CA', cn', cc'⟩ R).setCell ⟨w.heap.size, 4, none⟩ (.int .i64 (nx R.ver))) (w.heap.size + 1) 27 (rarr RA.zero Ro.zero)) := (hpt _ (by omega)).trans g1
  have DO := Lib.hid (own_keep hown fun g hg => hpt g (by have := hgel g hg; omega))
  have DB : Hid (Below w.heap.size w ((setR w1 w.heap.size ⟨KA', kn', kc', CA', cn', cc'⟩ R).setCell ⟨w.heap.size, 4, none⟩ (.int .i64 (nx R.ver)))) := (below_setR (BE.out.trans (hb1.mono (by omega))) (Nat.le_refl _) _ _).setCell (Nat.le_refl _) _
  have DK := Lib.hid (hks.keep (G := fun b => (b < B ∨ w.heap.size + 2 ≤ b) ∧ (Value.slice CA' cn' cc').ownBlock ≠ some b) (by rw [hps]; exact Nat.le_refl _) fun b hF _ => ⟨hF, hpt b (by have := hF.1; omega)⟩)
  clear g0 g1 hks hown hb1 hpt hps hgel HK HC B0 B1 BE
  go_upto_region 2 with fail
  go_upto_region 3 with fail
  clear y0 y1 y2 y3 y4 y5 z
  change (Code.region 3 _ _).wp _ _ _ ((setR w1 w.heap.size ⟨KA', kn', kc', CA', cn', cc'⟩ R).setCell ⟨w.heap.size, 4, none⟩ (.int .i64 (nx R.ver)))
  generalize (setR w1 w.heap.size ⟨KA', kn', kc', CA', cn', cc'⟩ R).setCell ⟨w.heap.size, 4, none⟩ (.int .i64 (nx R.ver)) = w4 at *
  have q0 := D0.out.cell 0
  have q1 := D0.out.cell 1
  have q2 := D0.out.cell 2
  have q3 := D0.out.cell 3
  have q4 := D0.out.cell 4
  have q5 := D0.out.cell 5
  have r0 := D1.out.cell 0
  have r1 := D1.out.cell 1
  have r2 := D1.out.cell 2
  have r3 := D1.out.cell 3
  have r4 := D1.out.cell 4
  have r5 := D1.out.cell 5
  have z := D1.out.frozen
  simp at q0 q1 q2 q3 q4 q5 r0 r1 r2 r3 r4 r5
  have E0 := Lib.hid (D1.out.putR (a := ⟨KA', kn', kc', CA', cn', cc'⟩) (R := R.nx))
  have E1 : Hid (KSF (fun b => (b < B ∨ w.heap.size ≤ b) ∧ (Value.slice CA' cn' cc').ownBlock ≠ some b) (setR w4 (w.heap.size + 1) ⟨KA', kn', kc', CA', cn', cc'⟩ R.nx) KA' kn' kc' R.ks) :=
    DK.out.keep (by rw [size_setR]; exact Nat.le_refl _) fun b hF _ => ⟨⟨by omega, hF.2⟩, heap_setR _ _ _ _ b (by omega)⟩
  have E2 : Hid ((setR w4 (w.heap.size + 1) ⟨KA', kn', kc', CA', cn', cc'⟩ R.nx).ownsRow w.heap.size 80 5 (.slice CA' cn' cc') cn' (flat recC R.cs)) :=
    own_mono (own_keep DO.out fun g hg => heap_setR _ _ _ _ g (by have := own_ge DO.out g hg; omega)) (by omega)
  have E3 : Hid (Below w.heap.size w (setR w4 (w.heap.size + 1) ⟨KA', kn', kc', CA', cn', cc'⟩ R.nx)) := below_setR DB.out (by omega) _ _
  clear DK DO DB D0 D1
  go_wp2_with fail
  clear q0 q1 q2 q3 q4 q5 r0 r1 r2 r3 r4 r5 z
  refine bodyPost_ret (results_ro rfl _ (w.heap.size + 1) rfl _ ⟨KA', kn', kc', CA', cn', cc'⟩ R.nx E0.out) rfl ?_
  exact ⟨⟨KA', kn', kc', CA', cn', cc'⟩, rfl, E1.out, E2.out, HLN.out, HCZ.out, E3.out⟩

end Go.Proofs.YtlmmgjgkmbmgpaaGreatDoor

namespace Go.Proofs.YtlmmgjgkmbmgpaaGreatDoor
open Go.RowKit

/-- a row of the call's own, with its spare cells -/
theorem own_blk {w : World} {base : Nat} {e : TypeId} {s n c g : Nat} {xs : List Value} (h : w.ownsRow base e s (.slice (some ⟨g, 0, none⟩) n c) n xs) :
    ∃ R : List Value, Blk w g e (xs ++ R).toArray ∧ (xs ++ R).length = c * s ∧ n ≤ c ∧ c ≤ maxLen ∧ base ≤ g := by
  rcases h.2 with ⟨h1, _⟩ | ⟨g', cap, cur, hv, hg, hh, hnc, hm, hsz, htk⟩
  · cases h1
  · injection hv with h1 h2 h3
    injection h1 with h1
    injection h1 with h1
    subst h1 h3
    refine ⟨cur.toList.drop (n * s), ?_, ?_, hnc, hm, hg⟩
    · rw [← htk, List.take_append_drop]
      exact hh
    · rw [← htk, List.take_append_drop]
      simpa using hsz
theorem blk_own {w : World} {base : Nat} {e : TypeId} {s n c g : Nat} {xs R : List Value} (h : Blk w g e (xs ++ R).toArray) (hx : xs.length = n * s) (hl : (xs ++ R).length = c * s) (hnc : n ≤ c) (hm : c ≤ maxLen) (hg : base ≤ g) :
    w.ownsRow base e s (.slice (some ⟨g, 0, none⟩) n c) n xs :=
  ⟨hx, .inr ⟨g, c, (xs ++ R).toArray, rfl, hg, h, hnc, hm, by simpa using hl, by rw [List.toList_toArray, ← hx, List.take_left]⟩⟩

theorem run_copy_rec {P : Program} (w : World) (dT sT ty elem : TypeId) (b o dLen dCap : Nat) (a : Addr) (sLen sCap s : Nat) (cs : List Value)
    (hu : P.underlying dT = some (.slice elem)) (hs : (P.info? elem).map (·.size) = some s) (hn : cs.length = Nat.min sLen dLen * s)
    (hsrc : ∀ j v, cs[j]? = some v → w.cell? (a.add j) = some v) (hc : ∀ j, j < cs.length → (w.cell? ⟨b, o + j, none⟩).isSome = true) (hf : ∀ j, j < cs.length → w.frozen? ⟨b, o + j, none⟩ = false) (h1 : ∀ v ∈ cs, v.oneCell' = true) :
    (Builtin.copy_ #[dT, sT] ty #[.slice (some ⟨b, o, none⟩) dLen dCap, .slice (some a) sLen sCap]).run P w = .ok (goInt (Nat.min sLen dLen)) (w.setCells b o cs) := by
  have hl := run_loadCells_list (P := P) w a cs hsrc
  have hst := run_storeCells_cells (P := P) b o cs 0 w (by simpa using hc) (by simpa using hf) h1
  cases hq : P.info? elem with
  | none => simp [hq] at hs
  | some i =>
    have hi : i.size = s := by simpa [hq] using hs
    simp [Builtin.copy_, run_underlying hu, Builtin.lenOf, Builtin.firstCells, sizeOf, typeInfo, hq, hi, ← hn, hl, hst]

theorem Blk.shape {w : World} {g : Nat} {t : TypeId} {cs : Array Value} (h : Blk w g t cs) : w.shape? g = some (t, cs.size) := by
  unfold Blk at h
  unfold World.shape?
  rw [h]

/-- what Insert hands back -/
def InsOk (lo g n : Nat) (cs : List Ch) (w : World) (e : Ending) (w' : World) : Prop :=
  ∃ A c, e = .returned (.slice A (n + 1) c) ∧ w'.ownsRow lo 80 5 (.slice A (n + 1) c) (n + 1) (flat recC cs) ∧ w.grownBy w' (some g)

end Go.Proofs.YtlmmgjgkmbmgpaaGreatDoor

namespace Go.Proofs.YtlmmgjgkmbmgpaaGreatDoor
open Go.RowKit

theorem eraseC_list (cs : List Ch) (R : List Value) (i : Nat) (hi : i < cs.length) : setList (setList (flat recC cs ++ R) (i * 5) (flat recC (cs.drop (i + 1)))) ((cs.length - 1) * 5) (recC Ch.zero) = flat recC (cs.eraseIdx i) ++ (recC Ch.zero ++ R) := by
  have hl := flat_length recC_length cs
  have hd := flat_length recC_length (cs.drop (i + 1))
  rw [List.length_drop] at hd
  have e1 : setList (flat recC cs ++ R) (i * 5) (flat recC (cs.drop (i + 1))) = flat recC (cs.eraseIdx i) ++ (flat recC (cs.drop (cs.length - 1)) ++ R) := by
    rw [setList_eq _ _ _ (by rw [List.length_append]; omega), List.take_append_of_le_length (by omega), flat_take recC_length, hd, show i * 5 + (cs.length - (i + 1)) * 5 = (cs.length - 1) * 5 by omega, List.drop_append_of_le_length (by omega), flat_drop recC_length, List.eraseIdx_eq_take_drop_succ, flat_append]
  have hel : (flat recC (cs.eraseIdx i)).length = (cs.length - 1) * 5 := by rw [flat_length recC_length, List.length_eraseIdx_of_lt hi]
  have hd2 := flat_length recC_length (cs.drop (cs.length - 1))
  rw [List.length_drop] at hd2
  have h5 : (recC Ch.zero).length = 5 := rfl
  have hd3 : (flat recC (cs.drop (cs.length - 1))).length = 5 := by omega
  rw [e1, setList_eq _ _ _ (by rw [List.length_append, List.length_append, hel, hd3, h5]; omega), ← hel, List.take_left, h5, List.append_assoc]
  congr 2
  rw [← List.append_assoc, show (flat recC (cs.eraseIdx i)).length + 5 = (flat recC (cs.eraseIdx i) ++ flat recC (cs.drop (cs.length - 1))).length by rw [List.length_append, hd3], List.drop_left]

set_option maxRecDepth 100000 in
theorem zero_chunk : ∀ w, (zeroValue 80).run Tryz.prog w = .ok (.agg (recC Ch.zero).toArray) w := fun _ => rfl

/-- what Delete leaves -/
def DelC (lo g n c : Nat) (cs : List Ch) (w : World) (e : Ending) (w' : World) : Prop :=
  e = .returned (.slice (some ⟨g, 0, none⟩) (n - 1) c) ∧ w'.ownsRow lo 80 5 (.slice (some ⟨g, 0, none⟩) (n - 1) c) (n - 1) (flat recC cs) ∧ But g w w'

end Go.Proofs.YtlmmgjgkmbmgpaaGreatDoor

namespace Go.Proofs.YtlmmgjgkmbmgpaaGreatDoor
open Go.RowKit

theorem KS.toB {w w' : World} {A : Option Addr} {n c : Nat} {ks : List Od} (h : KS w A n c ks) (hb : Below w.heap.size w w') : KSF (fun b => b < w.heap.size) w' A n c ks :=
  h.toF.keep hb.size fun b hF hlt => ⟨hF, hb.block b hlt⟩
theorem KSF.lt {F : Nat → Prop} {w : World} {A : Option Addr} {n c : Nat} {ks : List Od} (h : KSF F w A n c ks) : KSF (fun b => F b ∧ b < w.heap.size) w A n c ks :=
  h.keep (Nat.le_refl _) fun _ hF hlt => ⟨⟨hF, hlt⟩, rfl⟩

/-- routes in the variable that lies in block N; their chunks lie in a row of the call's own; blocks from hi on are others -/
structure Vr (B lo hi N : Nat) (w : World) (a : RA) (R : Ro) (cs : List Ch) (wr : World) : Prop where
  b0 : Blk wr N 27 (rarr a R)
  own : wr.ownsRow lo 80 5 (.slice a.CA a.cn a.cc) a.cn (flat recC cs)
  og : ∀ g, (Value.slice a.CA a.cn a.cc).ownBlock = some g → g < hi
  ks : KSF (fun b => ((b < B ∨ lo ≤ b) ∧ b < hi) ∧ (Value.slice a.CA a.cn a.cc).ownBlock ≠ some b) wr a.KA a.kn a.kc R.ks
  ln : a.cn = cs.length
  sz : a.cn * 56 ≤ reach
  bel : Below B w wr
  hn : B ≤ N ∧ N < lo ∧ lo ≤ hi ∧ hi ≤ wr.heap.size
section
variable {B lo hi N : Nat} {w wr w1 : World} {a : RA} {R : Ro} {cs : List Ch}
theorem Vr.step (h : Vr B lo hi N w a R cs wr) (hb : Below wr.heap.size wr w1) : Vr B lo hi N w a R cs w1 :=
  ⟨h.b0.step hb, own_step h.own hb, h.og, h.ks.keep hb.size fun b hF hlt => ⟨hF, hb.block b hlt⟩, h.ln, h.sz, h.bel.trans (hb.mono (by have := h.hn; omega)), ⟨h.hn.1, h.hn.2.1, h.hn.2.2.1, Nat.le_trans h.hn.2.2.2 hb.size⟩⟩
theorem Vr.of {a0 : RA} {R0 : Ro} (h0 : Blk w1 N 27 (rarr a0 R0)) (hN : B ≤ N) (hNl : N < lo)
    (hks : KSF (fun b => (b < B ∨ lo ≤ b) ∧ (Value.slice a.CA a.cn a.cc).ownBlock ≠ some b) w1 a.KA a.kn a.kc R.ks) (hown : w1.ownsRow lo 80 5 (.slice a.CA a.cn a.cc) a.cn (flat recC R.cs))
    (hln : a.cn = R.cs.length) (hsz : a.cn * 56 ≤ reach) (hlo : lo ≤ w1.heap.size) (hbel : Below B w w1) : Vr B lo w1.heap.size N w a R R.cs (setR w1 N a R) := by
  have hge := own_ge hown
  refine ⟨h0.putR, own_keep hown fun g hg => heap_setR _ _ _ _ g (by have := hge g hg; omega), fun g hg => own_lt hown hg, hks.lt.keep (by rw [size_setR]; exact Nat.le_refl _) fun b hF hlt => ⟨⟨⟨hF.1.1, hF.2⟩, hF.1.2⟩, heap_setR _ _ _ _ b (by have := hF.1.1; omega)⟩, hln, hsz, below_setR hbel hN _ _, ⟨hN, hNl, hlo, by rw [size_setR]; exact Nat.le_refl _⟩⟩
/-- a store into a chunk -/
theorem Vr.put {g : Nat} (h : Vr B lo hi N w a R cs wr) (hg : a.CA = some ⟨g, 0, none⟩) {i j : Nat} {c c' : Ch} {v : Value} (hi' : cs[i]? = some c) (hj : j < 5) (he : (recC c).set j v = recC c') : Vr B lo hi N w a R (cs.set i c') (wr.setCell ⟨g, i * 5 + j, none⟩ v) := by
  obtain ⟨KA, kn, kc, CA, cn, cc⟩ := a
  simp only at hg
  subst hg
  have hge := own_ge h.own g rfl
  have ho := own_set h.own (i * 5 + j) v
  rw [flat_setj recC_length hi' hj he] at ho
  refine ⟨h.b0.far (by show N ≠ g; have := h.hn; omega) _, ho, h.og, h.ks.keep (by simp [World.setCell]) fun b hF _ => ⟨hF, Below.heap_setCell _ _ _ b (by show b ≠ g; intro e; exact hF.2 (by rw [e]; rfl))⟩, by rw [List.length_set]; exact h.ln, h.sz, h.bel.setCell (by show B ≤ g; have := h.hn; omega) _, ?_⟩
  have := h.hn
  simpa using this
/-- a store into another block -/
theorem Vr.far (h : Vr B lo hi N w a R cs wr) {p : Addr} (hp : hi ≤ p.block ∨ (B ≤ p.block ∧ p.block < lo ∧ p.block ≠ N)) (v : Value) : Vr B lo hi N w a R cs (wr.setCell p v) := by
  have hn := h.hn
  refine ⟨h.b0.far (by omega) _, own_far h.own (fun e => by have := h.og _ e; have := own_ge h.own _ e; omega) _, h.og, h.ks.keep (by simp [World.setCell]) fun b hF _ => ⟨hF, Below.heap_setCell _ _ _ b (by have := hF.1; omega)⟩, h.ln, h.sz, h.bel.setCell (by omega) _, by simpa using hn⟩
theorem Vr.get (h : Vr B lo hi N w a R cs wr) {i : Nat} {c : Ch} (hi' : cs[i]? = some c) : ∃ g, a.CA = some ⟨g, 0, none⟩ ∧ lo ≤ g ∧ g < hi ∧ ∀ j v, (recC c)[j]? = some v → wr.cell? ⟨g, i * 5 + j, none⟩ = some v ∧ wr.frozen? ⟨g, i * 5 + j, none⟩ = false := by
  obtain ⟨KA, kn, kc, CA, cn, cc⟩ := a
  have hl : i < cs.length := (List.getElem?_eq_some_iff.1 hi').1
  have hln : cn = cs.length := h.ln
  obtain ⟨g, cap, hv, hge, _⟩ := h.own.form (by show 0 < cn; omega)
  have hv2 : CA = some ⟨g, 0, none⟩ := by injection hv
  subst hv2
  exact ⟨g, rfl, hge, h.og g rfl, fun j v hv => own_cell h.own (flat_get recC_length hi' hv)⟩
end

/-- what is left at the end of a change -/
theorem change_end {B lo g1 : Nat} {w wr : World} {a b : RA} {R S : Ro} (hB : B = w.heap.size) (h1 : Blk wr g1 27 (rarr b S)) (hg : B ≤ g1) (hgl : g1 < lo) (hsp : R.sp.size ≤ reach)
    (hks : KSF (fun b => b < B ∨ lo ≤ b) wr a.KA a.kn a.kc R.ks) (hown : wr.ownsRow lo 80 5 (.slice a.CA a.cn a.cc) a.cn (flat recC R.cs)) (hln : a.cn = R.cs.length) (hsz : a.cn * 56 ≤ reach) (hbel : Below B w wr) :
    RouOk (R, 0) w (.returned (.tuple #[rval a R, .int .i64 0])) (setR wr g1 a R) ∧ Blk (setR wr g1 a R) g1 27 (rarr a R) := by
  subst hB
  have ho := own_keep hown (w' := setR wr g1 a R) fun g hg => heap_setR _ _ _ _ g (by have := own_ge hown g hg; omega)
  obtain ⟨A', c', hv, hsr⟩ := SR.of_own recC_length ho hln.symm
  injection hv with e1 e2 e3
  subst e1 e3
  refine ⟨⟨a, rfl, ⟨hsp, (hks.keep (G := fun _ => True) (by rw [size_setR]; exact Nat.le_refl _) fun b hF _ => ⟨trivial, heap_setR _ _ _ _ b (by omega)⟩).ks, ⟨hsr, hsz⟩⟩, below_setR hbel hg _ _⟩, h1.putR⟩
theorem change_err {g1 : Nat} {w wr : World} {b : RA} {S : Ro} (n : Int) (h1 : Blk wr g1 27 (rarr b S)) (hg : w.heap.size ≤ g1) (hbel : Below w.heap.size w wr) :
    RouOk (Ro.zero, n) w (.returned (.tuple #[rval RA.zero Ro.zero, .int .i64 n])) (setR wr g1 RA.zero Ro.zero) ∧ Blk (setR wr g1 RA.zero Ro.zero) g1 27 (rarr RA.zero Ro.zero) :=
  ⟨⟨RA.zero, rfl, RR.zero, below_setR hbel hg _ _⟩, h1.putR⟩
theorem RouOk.eq {r s : Ro × Int} {w w' : World} {e : Ending} (h : r = s) (k : RouOk s w e w') : RouOk r w e w' := by rw [h]; exact k
theorem set_two {cs : List Ch} {i : Nat} {c d : Ch} : (cs.set i c).set i d = cs.set i d := by simp

end Go.Proofs.YtlmmgjgkmbmgpaaGreatDoor

namespace Go.Proofs.YtlmmgjgkmbmgpaaGreatDoor
open Go.RowKit

theorem blk_ro {w : World} {g : Nat} {t : TypeId} {a : RA} {R : Ro} (h : Blk w g t (rarr a R)) : w.cell? ⟨g, 0, none⟩ = some (.string R.sp) ∧ w.cell? ⟨g, 1, none⟩ = some (.slice a.KA a.kn a.kc) ∧ w.cell? ⟨g, 2, none⟩ = some (.bool R.ha) ∧ w.cell? ⟨g, 3, none⟩ = some (.int .i64 R.ep) ∧ w.cell? ⟨g, 4, none⟩ = some (.int .i64 R.ver) ∧ w.cell? ⟨g, 5, none⟩ = some (.slice a.CA a.cn a.cc) ∧ ∀ i, w.frozen? ⟨g, i, none⟩ = false := by
  refine ⟨?_, ?_, ?_, ?_, ?_, ?_, h.frozen⟩ <;> rw [h.cell] <;> rfl

end Go.Proofs.YtlmmgjgkmbmgpaaGreatDoor


/- The contracts of the reference's SameOrders, SameChunks and Same. -/
namespace Go.Proofs.YtlmmgjgkmbmgpaaGreatDoor
open Go.RowKit

def sameOd (a b : Od) : Bool := (a.d == b.d) && sameP a.p b.p
def sameK : List Od → List Od → Bool
  | [], [] => true
  | a :: r, b :: s => sameOd a b && sameK r s
  | _, _ => false
def sameC (a b : Ch) : Bool := (a.lo.toList == b.lo.toList) && (a.hi.toList == b.hi.toList) && (a.sh == b.sh) && (a.ver == b.ver) && (a.ju == b.ju)
def sameCs : List Ch → List Ch → Bool
  | [], [] => true
  | a :: r, b :: s => sameC a b && sameCs r s
  | _, _ => false
def sameRo (a b : Ro) : Bool := (a.sp.toList == b.sp.toList) && (a.ep == b.ep) && (a.ver == b.ver) && (a.ha == b.ha) && sameK a.ks b.ks && sameCs a.cs b.cs
theorem sameP_refl : ∀ l, sameP l l = true
  | [] => rfl
  | a :: r => by rw [sameP, sameP_refl r]; simp
theorem sameK_refl : ∀ l, sameK l l = true
  | [] => rfl
  | a :: r => by rw [sameK, sameK_refl r, sameOd, sameP_refl]; simp
theorem sameCs_refl : ∀ l, sameCs l l = true
  | [] => rfl
  | a :: r => by rw [sameCs, sameCs_refl r, sameC]; simp
theorem sameRo_refl (R : Ro) : sameRo R R = true := by unfold sameRo; rw [sameK_refl, sameCs_refl]; simp
theorem sameK_len : ∀ {l m : List Od}, l.length ≠ m.length → sameK l m = false
  | [], [], h => absurd rfl h
  | [], _ :: _, _ => rfl
  | _ :: _, [], _ => rfl
  | a :: r, b :: s, h => by rw [sameK, sameK_len (l := r) (m := s) (by simpa using h)]; simp
theorem sameK_at {l m : List Od} {i : Nat} {x y : Od} (hx : l[i]? = some x) (hy : m[i]? = some y) : sameK (l.drop i) (m.drop i) = (sameOd x y && sameK (l.drop (i + 1)) (m.drop (i + 1))) := by rw [drop_of hx, drop_of hy, sameK]
theorem sameK_end {l m : List Od} {i : Nat} (h1 : l.length ≤ i) (h2 : m.length ≤ i) : sameK (l.drop i) (m.drop i) = true := by rw [List.drop_of_length_le h1, List.drop_of_length_le h2]; rfl
theorem sameCs_len : ∀ {l m : List Ch}, l.length ≠ m.length → sameCs l m = false
  | [], [], h => absurd rfl h
  | [], _ :: _, _ => rfl
  | _ :: _, [], _ => rfl
  | a :: r, b :: s, h => by rw [sameCs, sameCs_len (l := r) (m := s) (by simpa using h)]; simp
theorem sameCs_at {l m : List Ch} {i : Nat} {x y : Ch} (hx : l[i]? = some x) (hy : m[i]? = some y) : sameCs (l.drop i) (m.drop i) = (sameC x y && sameCs (l.drop (i + 1)) (m.drop (i + 1))) := by rw [drop_of hx, drop_of hy, sameCs]
theorem sameCs_end {l m : List Ch} {i : Nat} (h1 : l.length ≤ i) (h2 : m.length ≤ i) : sameCs (l.drop i) (m.drop i) = true := by rw [List.drop_of_length_le h1, List.drop_of_length_le h2]; rfl

end Go.Proofs.YtlmmgjgkmbmgpaaGreatDoor


/- The contract of docstoreref23.SameOrders. Printed by gen_same23.py. -/
namespace Go.Proofs.YtlmmgjgkmbmgpaaGreatDoor
open Go.RowKit

set_option maxRecDepth 100000 in
set_option maxHeartbeats 1000000 in
theorem sameO23_any (l m : List Od) (A B : Option Addr) (n c k d : Nat) (w : World) (h : KS w A n c l) (h' : KS w B k d m) :
    Calls Tryz.prog 76 #[.slice A n c, .slice B k d] w fun e w' => e = .returned (.bool (sameK l m)) ∧ Below w.heap.size w w' := by
  have hl := Lib.hid h.ln
  have hl' := Lib.hid h'.ln
  obtain ⟨os, h⟩ := h
  obtain ⟨os', h'⟩ := h'
  have hz : n ≤ 140737488355328 := by have := h.sz; unfold reach at this; omega
  have hk : k ≤ 140737488355328 := by have := h'.sz; unfold reach at this; omega
  have H := Lib.hid h
  have H' := Lib.hid h'
  clear h h'
  by_cases hnk : n = k
  rotate_left
  · have HF : Hid (sameK l m = false) := sameK_len (by have := hl.out; have := hl'.out; omega)
    have hnk' : ((n : Int) != (k : Int)) = true := by simp; omega
    go_enter Tryz.func76, Tryz.ntmps76
    go_wp2_with fail
    go_ret
    exact ⟨by rw [HF.out]; rfl, Below.refl _ _⟩
  subst hnk
  go_enter Tryz.func76, Tryz.ntmps76
  go_wp2_with fail
  go_loopw [5] (fun v wr => ∃ i : Nat, i ≤ n ∧ v = .int .i64 i ∧ sameK l m = sameK (l.drop i) (m.drop i) ∧ Below w.heap.size w wr) (fun v _ => n - (intOf v).toNat)
  case atStart => exact ⟨0, Nat.zero_le _, rfl, rfl, Below.refl _ _⟩
  case round =>
    obtain ⟨i, hi, rfl, ha, hbel⟩ := hrel
    have HA := Lib.hid ha
    have HB := Lib.hid hbel
    clear ha
    by_cases hlt : i < n
    · obtain ⟨b, off, x, hA, hb, hx, e0, e1⟩ := H.out.sr.at2 hlt
      obtain ⟨b', off', y, hA', hb', hy, f0, f1⟩ := H'.out.sr.at2 hlt
      obtain ⟨q, hq⟩ : ∃ q, l[i]? = some q := ⟨_, List.getElem?_eq_getElem (by have := hl.out; omega)⟩
      obtain ⟨r, hr⟩ : ∃ r, m[i]? = some r := ⟨_, List.getElem?_eq_getElem (by have := hl'.out; omega)⟩
      subst hA hA'
      have OQ := Lib.hid (H.out.el i x q hx hq)
      have OR' := Lib.hid (H'.out.el i y r hy hr)
      have HX := Lib.hid (sameK_at hq hr)
      replace e0 := (hbel.cell (p := ⟨b, off + i * 2, none⟩) hb).trans e0
      replace e1 := (hbel.cell (p := ⟨b, off + i * 2 + 1, none⟩) hb).trans e1
      replace f0 := (hbel.cell (p := ⟨b', off' + i * 2, none⟩) hb').trans f0
      replace f1 := (hbel.cell (p := ⟨b', off' + i * 2 + 1, none⟩) hb').trans f1
      obtain ⟨xA, xn, xc, xd⟩ := x
      obtain ⟨yA, yn, yc, yd⟩ := y
      have dq : xd = q.d := OQ.out.d
      have dr : yd = r.d := OR'.out.d
      simp only at e0 e1 f0 f1
      have X0 : ∀ kk : BW wr, kk.val.cell? ⟨b, off + i * 2, none⟩ = some (.slice xA xn xc) := fun kk => kk.cell e0
      have X1 : ∀ kk : BW wr, kk.val.cell? ⟨b, off + i * 2 + 1, none⟩ = some (.bool xd) := fun kk => kk.cell e1
      have Y0 : ∀ kk : BW wr, kk.val.cell? ⟨b', off' + i * 2, none⟩ = some (.slice yA yn yc) := fun kk => kk.cell f0
      have Y1 : ∀ kk : BW wr, kk.val.cell? ⟨b', off' + i * 2 + 1, none⟩ = some (.bool yd) := fun kk => kk.cell f1
      have K1 : Hid (∀ kk : BW wr, Calls Tryz.prog 118 #[.slice xA xn xc, .slice yA yn yc] kk.val fun e w'' => e = .returned (.bool (sameP q.p r.p)) ∧ ∃ kk : BW wr, w'' = kk.val) := fun kk =>
        Calls.bw (rsame04_any q.p r.p _ _ _ _ _ _ _ (OQ.out.st.step (HB.out.step' kk.below)) (OR'.out.st.step (HB.out.step' kk.below)))
      have HOD : Hid (sameOd q r = ((xd == yd) && sameP q.p r.p)) := by rw [Hid, dq, dr]; rfl
      have i0 : (0 : Int) ≤ (i : Int) := by omega
      have i1 : (i : Int) < (n : Int) := by omega
      clear hx hy hq hr hbel dq dr
      go_upto_region 6 with fail
      clear e0 e1 f0 f1
      cases xd <;> cases yd
      all_goals
        refine wp_region_bw (by kernel_rfl) (by kernel_rfl) ?_
        repeat (go_big_quiet_step ((go_at_call 118; with_reducible exact K1.out _)))
        refine wpQuiet_nil ?_
        rintro _ ⟨kw, rfl⟩
        have HK := Lib.hid kw.below
        generalize kw.val = w5 at *
        clear X0 X1 Y0 Y1 K1
      case' false.true | true.false =>
        have HF : Hid (sameK l m = false) := by rw [Hid, HA.out, HX.out, HOD.out]; rfl
        go_wp2_with fail
        go_ret
        exact ⟨by rw [HF.out]; rfl, HB.out.step' HK.out⟩
      all_goals
        cases hq : sameP q.p r.p
        · have HF : Hid (sameK l m = false) := by rw [Hid, HA.out, HX.out, HOD.out, hq]; rfl
          go_wp2_with fail
          go_ret
          exact ⟨by rw [HF.out]; rfl, HB.out.step' HK.out⟩
        · have HF : Hid (sameK l m = sameK (l.drop (i + 1)) (m.drop (i + 1))) := by rw [Hid, HA.out, HX.out, HOD.out, hq]; rfl
          go_wp2_with fail
          go_roundw
          case rel => exact ⟨i + 1, by omega, by go_num, HF.out, HB.out.step' HK.out⟩
          case measure => simp [intOf]; omega
    · have HF : Hid (sameK l m = true) := by rw [Hid, HA.out]; exact sameK_end (by have := hl.out; omega) (by have := hl'.out; omega)
      clear hbel
      go_wp2_with fail
      go_ret
      exact ⟨by rw [HF.out]; rfl, HB.out⟩

end Go.Proofs.YtlmmgjgkmbmgpaaGreatDoor


/- An integer that came in, opened. -/
namespace Go.Proofs.YtlmmgjgkmbmgpaaGreatDoor
open Go.ChangeShapes Go.WideShapes Go.ChangeAt Go.RowKit Go.Joins Go.Deep
variable {H : Type} {enc : TypeId × Value → H} {W : World} {base : Nat} {r : Reach} {b0 : Nat} {spare : Nat → Bool} {held : Bool}
set_option maxRecDepth 100000 in
theorem open_i64 {v : Value} {d : DataW H} {p : List MemPlace} (hv : Value.okWide Tryz.prog W r b0 3 v) (h : DataW.Trod enc Tryz.prog W base spare held 3 v d p) : ∃ n : Int, v = .int .i64 n ∧ (Lit.int .i64 n).wf = true := by
  obtain ⟨x, rfl, rfl, rfl, wx⟩ := open_int Tryz.underlying3 hv h
  exact ⟨x, rfl, wx⟩
end Go.Proofs.YtlmmgjgkmbmgpaaGreatDoor


/- A list of values that came in, opened. -/
namespace Go.Proofs.YtlmmgjgkmbmgpaaGreatDoor
open Go.ChangeShapes Go.WideShapes Go.ChangeAt Go.RowKit Go.Joins Go.Deep

section
variable {H : Type} {enc : TypeId × Value → H} {W : World} {base : Nat} {spare : Nat → Bool} {held : Bool}
set_option maxRecDepth 100000 in
theorem open_values {r : Reach} {b0 : Nat} {v : Value} {d : DataW H} {p : List MemPlace} (hv : Value.okWide Tryz.prog W r b0 28 v) (h : DataW.Trod enc Tryz.prog W base spare held 28 v d p) (hw : Light 28 d) :
    ∃ (A : Option Addr) (n c : Nat) (ps : List PV), v = .slice A n c ∧ SL (fun _ => True) W A n c ps := by
  obtain ⟨a, len, cap, rfl⟩ := okWide_slice Tryz.underlying28 hv
  obtain ⟨fuel, hf⟩ := h
  obtain ⟨LA, ln, lc, l, e, hl1, hl2, hl3, hl4⟩ := read_list fuel (fun n' _ cs y hy hl => read_value n' cs y hy hl) hf hw
  cases e
  have hr : RW W ⟨0, 0, ByteArray.empty, a, len, cap, none, 0, 0⟩ (.mk 0 0 ByteArray.empty l []) := by
    refine RVs.shut ⟨rfl, rfl, rfl, by show (0 : Nat) ≤ reach; decide, hl1, hl2, hl3, fun hp => ?_, rfl, Nat.le_refl _, by show 0 * 96 ≤ reach; decide, fun h => absurd h (by show ¬ 0 < 0; omega)⟩
    obtain ⟨b, off, e, h⟩ := hl4 hp
    exact ⟨b, off, e, Ft.top, h⟩
  obtain ⟨ps, _, hs⟩ := hr.sl
  exact ⟨a, len, cap, ps, rfl, hs⟩
end
end Go.Proofs.YtlmmgjgkmbmgpaaGreatDoor

