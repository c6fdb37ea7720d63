/- A list of texts that came in, opened. · A list of orders that came in, opened; what New is called with. · Routes that came in, opened. · A change that came in, opened. -/
import Derived.Test.YtgcklgkhdokchaaDoorValOpen
import Derived.Test.YtgcklgkhdokchaaDoorChBaseA
namespace Go.Proofs.YtgcklgkhdokchaaDoor
set_option maxRecDepth 100000
open Go.ChangeShapes Go.WideShapes Go.ChangeAt Go.RowKit Go.Joins Go.Deep

theorem bytes_string : Tryd.prog.bytesOf 9 = 16 := by kernel_rfl
section
variable {H : Type} {enc : TypeId × Value → H} {W : World} {base : Nat} {spare : Nat → Bool} {held : Bool}
theorem read_texts (n : Nat) {v : Value} {y : DataW H × List MemPlace} (h : DataW.trod enc Tryd.prog W base spare held n 36 [v] = some y) (hw : Light 36 y.1) :
    ∃ (A : Option Addr) (n c : Nat) (xs : List ByteArray), v = .slice A n c ∧ ST W A n c xs := by
  rcases DataW.trod_slice Tryd.underlying36 h with ⟨hcs, _⟩ | ⟨a, len, cap, elems, rest, n', rfl, hcs, rfl, _, hlc, hcm, hel, hat, _, _⟩
  · simp at hcs
    exact ⟨none, 0, 0, [], hcs, ⟨SR.nil, by show 0 * 16 ≤ reach; decide, fun s hs => by simp at hs⟩⟩
  · simp at hcs
    subst hcs
    simp only [Light, DataW.weights, Tryd.underlying36, List.mem_cons, List.mem_append, bytes_string] at hw
    have hsz : len * 16 ≤ reach := by
      have := hw _ (.inl rfl)
      simp only [List.length_map, hel] at this
      have h2 : len * 16 ≤ (len + rest.length) * 16 := Nat.mul_le_mul_right _ (by omega)
      have := le_reach
      omega
    have wl := light_all (l := elems.map (·.1)) (fun z hz => hw z (.inr (.inl hz)))
    rcases Nat.eq_zero_or_pos len with h0 | hp
    · subst h0
      exact ⟨some a, 0, cap, [], rfl, ⟨SR.nil, by show 0 * 16 ≤ reach; decide, fun s hs => by simp at hs⟩⟩
    have step : ∀ i, i < len → ∃ s : ByteArray, W.cells? base (a.add (i * 1)) 1 = some [.string s] ∧ s.size ≤ reach := by
      intro i hi
      have h1 := hat i hi
      rw [cells_string, List.getElem?_eq_getElem (by omega)] at h1
      obtain ⟨cs', hcs', ht'⟩ := Option.bind_eq_some_iff.1 h1
      have hwi := wl _ (List.mem_map_of_mem (List.getElem_mem (l := elems) (n := i) (by omega)))
      generalize elems[i] = q at *
      obtain ⟨s, e0, rfl, _⟩ := DataW.trod_string Tryd.underlying9 ht'
      subst e0
      refine ⟨s, hcs', Nat.le_trans (hwi s.size ?_) le_reach⟩
      simp [DataW.weights]
    obtain ⟨s0, h0, _⟩ := step 0 hp
    obtain ⟨b, off, ha, _⟩ := cells_at h0 (by omega)
    have ha' : a = ⟨b, off, none⟩ := by simpa [Addr.add] using ha
    subst ha'
    obtain ⟨f, hf⟩ := choose_fn (p := fun i (s : ByteArray) => W.cell? ⟨b, off + i, none⟩ = some (.string s) ∧ s.size ≤ reach) ByteArray.empty len (fun i hi => by
      obtain ⟨s, hcs', hs⟩ := step i hi
      rw [addr_add] at hcs'
      obtain ⟨b', off', ha', hc⟩ := cells_at hcs' (by omega)
      injection ha' with e1 e2
      subst e1 e2
      have := hc 0 (by omega)
      rw [Nat.mul_one] at this
      exact ⟨s, this, hs⟩)
    refine ⟨_, len, cap, (List.range len).map f, rfl, ⟨⟨by simp, hlc, fun _ => ⟨b, off, rfl, World.block_lt_of_cell? W _ (hf 0 hp).1, fun i x hi j u hj => ?_⟩⟩, hsz, fun s hs => ?_⟩⟩
    · have hlt : i < len := by have := (List.getElem?_eq_some_iff.1 hi).1; simpa using this
      rw [List.getElem?_map, List.getElem?_range hlt] at hi
      simp only [Option.map_some, Option.some.injEq] at hi
      subst hi
      have hj0 : j = 0 := by have := (List.getElem?_eq_some_iff.1 hj).1; simpa [recT] using this
      subst hj0
      simp [recT] at hj
      subst hj
      rw [Nat.mul_one, Nat.add_zero]
      exact (hf i hlt).1
    · obtain ⟨i, hi, rfl⟩ := List.mem_map.1 hs
      exact (hf i (List.mem_range.1 hi)).2
theorem open_texts {r : Reach} {b0 : Nat} {v : Value} {d : DataW H} {p : List MemPlace} (hv : Value.okWide Tryd.prog W r b0 36 v) (h : DataW.Trod enc Tryd.prog W base spare held 36 v d p) (hw : Light 36 d) :
    ∃ (A : Option Addr) (n c : Nat) (xs : List ByteArray), v = .slice A n c ∧ ST W A n c xs := by
  obtain ⟨a, len, cap, rfl⟩ := okWide_slice Tryd.underlying36 hv
  obtain ⟨fuel, hf⟩ := h
  exact read_texts fuel hf hw
end
end Go.Proofs.YtgcklgkhdokchaaDoor

namespace Go.Proofs.YtgcklgkhdokchaaDoor
set_option maxRecDepth 100000
open Go.ChangeShapes Go.WideShapes Go.ChangeAt Go.RowKit Go.Joins Go.Deep

theorem bytes_order : Tryd.prog.bytesOf 53 = 32 := by kernel_rfl
theorem cells_order : Tryd.prog.cellsOf 53 = 2 := by kernel_rfl
theorem cells_texts : Tryd.prog.cellsOf 36 = 1 := by kernel_rfl
theorem cells_bool : Tryd.prog.cellsOf 4 = 1 := by kernel_rfl
section
variable {H : Type} {enc : TypeId × Value → H} {W : World} {base : Nat} {spare : Nat → Bool} {held : Bool}
theorem read_orders (n : Nat) {v : Value} {y : DataW H × List MemPlace} (h : DataW.trod enc Tryd.prog W base spare held n 22 [v] = some y) (hw : Light 22 y.1) :
    ∃ (A : Option Addr) (n c : Nat) (ks : List Od), v = .slice A n c ∧ KS W A n c ks := by
  rcases DataW.trod_slice Tryd.underlying22 h with ⟨hcs, _⟩ | ⟨a, len, cap, elems, rest, n', rfl, hcs, rfl, _, hlc, hcm, hel, hat, _, _⟩
  · simp at hcs
    exact ⟨none, 0, 0, [], hcs, KS.nil⟩
  · simp at hcs
    subst hcs
    simp only [Light, DataW.weights, Tryd.underlying22, List.mem_cons, List.mem_append, bytes_order] at hw
    have hsz : len * 32 ≤ reach := by
      have := hw _ (.inl rfl)
      simp only [List.length_map, hel] at this
      have h2 : len * 32 ≤ (len + rest.length) * 32 := Nat.mul_le_mul_right _ (by omega)
      have := le_reach
      omega
    have wl := light_all (l := elems.map (·.1)) (fun z hz => hw z (.inr (.inl hz)))
    rcases Nat.eq_zero_or_pos len with h0 | hp
    · subst h0
      exact ⟨some a, 0, cap, [], rfl, KS.nil⟩
    have step : ∀ i, i < len → ∃ (o : OC) (q : Od), W.cells? base (a.add (i * 2)) 2 = some [.slice o.A o.n o.c, .bool o.d] ∧ OR W o q := by
      intro i hi
      have h1 := hat i hi
      rw [cells_order, List.getElem?_eq_getElem (by omega)] at h1
      obtain ⟨cs', hcs', ht'⟩ := Option.bind_eq_some_iff.1 h1
      have hwi := wl _ (List.mem_map_of_mem (List.getElem_mem (l := elems) (n := i) (by omega)))
      generalize elems[i] = q at *
      obtain ⟨ys, n'', rfl, rfl, hcl, hyl, hf⟩ := DataW.trod_struct Tryd.underlying53 ht'
      rw [cells_order] at hcl
      obtain ⟨v0, v1, rfl⟩ := two hcl
      obtain ⟨y0, y1, rfl⟩ := two hyl
      have f0 : DataW.trod enc Tryd.prog W base spare held n'' 36 [v0] = some y0 := by simpa [cells_texts] using hf 0 _ rfl
      have f1 : DataW.trod enc Tryd.prog W base spare held n'' 4 [v1] = some y1 := by simpa [cells_texts, cells_bool] using hf 1 _ rfl
      simp only [Light, DataW.weights, Tryd.underlying53, List.map, DataW.weightsEach, List.mem_append] at hwi
      obtain ⟨A, m, c, xs, rfl, hx⟩ := read_texts n'' f0 (fun z hz => hwi z (.inl hz))
      obtain ⟨d, e1, rfl⟩ := DataW.trod_bool Tryd.underlying4 f1
      simp only [List.cons.injEq, and_true] at e1
      subst e1
      exact ⟨⟨A, m, c, d⟩, ⟨xs, d⟩, hcs', rfl, hx⟩
    obtain ⟨o0, q0, h0, _⟩ := step 0 hp
    obtain ⟨b, off, ha, _⟩ := cells_at h0 (by omega)
    have ha' : a = ⟨b, off, none⟩ := by simpa [Addr.add] using ha
    subst ha'
    obtain ⟨f, hf⟩ := choose_fn (p := fun i (z : OC × Od) => W.cell? ⟨b, off + i * 2, none⟩ = some (.slice z.1.A z.1.n z.1.c) ∧ W.cell? ⟨b, off + i * 2 + 1, none⟩ = some (.bool z.1.d) ∧ OR W z.1 z.2) (o0, q0) len (fun i hi => by
      obtain ⟨o, q, hcs', ho⟩ := step i hi
      rw [addr_add] at hcs'
      obtain ⟨b', off', ha', hc⟩ := cells_at hcs' (by omega)
      injection ha' with e1 e2
      subst e1 e2
      exact ⟨(o, q), hc 0 (by omega), hc 1 (by omega), ho⟩)
    refine ⟨_, len, cap, (List.range len).map fun i => (f i).2, rfl, (List.range len).map (fun i => (f i).1), ⟨by simp, hlc, fun _ => ⟨b, off, rfl, World.block_lt_of_cell? W _ (hf 0 hp).1, fun i x hi j u hj => ?_⟩⟩, hsz, by simp, fun i o q hi hq => ?_⟩
    · have hlt : i < len := by have := (List.getElem?_eq_some_iff.1 hi).1; simpa using this
      rw [List.getElem?_map, List.getElem?_range hlt] at hi
      simp only [Option.map_some, Option.some.injEq] at hi
      subst hi
      have hj2 : j < 2 := by have := (List.getElem?_eq_some_iff.1 hj).1; simpa [recO] using this
      rcases (show j = 0 ∨ j = 1 by omega) with rfl | rfl
      · simp [recO] at hj
        subst hj
        rw [Nat.add_zero]
        exact (hf i hlt).1
      · simp [recO] at hj
        subst hj
        exact (hf i hlt).2.1
    · have hlt : i < len := by have := (List.getElem?_eq_some_iff.1 hi).1; simpa using this
      rw [List.getElem?_map, List.getElem?_range hlt] at hi hq
      simp only [Option.map_some, Option.some.injEq] at hi hq
      subst hi hq
      exact (hf i hlt).2.2
theorem cells_start : Tryd.prog.cellsOf 26 = 4 := by kernel_rfl
theorem cells_key : Tryd.prog.cellsOf 24 = 2 := by kernel_rfl
theorem cells_orders : Tryd.prog.cellsOf 22 = 1 := by kernel_rfl
theorem three {α : Type} {l : List α} (h : l.length = 3) : ∃ a b c, l = [a, b, c] := by
  match l, h with
  | [a, b, c], _ => exact ⟨a, b, c, rfl⟩
theorem four {α : Type} {l : List α} (h : l.length = 4) : ∃ a b c d, l = [a, b, c, d] := by
  match l, h with
  | [a, b, c, d], _ => exact ⟨a, b, c, d, rfl⟩
theorem read_start (fuel : Nat) (cs : List Value) (y : DataW H × List MemPlace) (h : DataW.trod enc Tryd.prog W base spare held fuel 26 cs = some y) (hw : Light 26 y.1) :
    ∃ (sp : ByteArray) (A : Option Addr) (n c : Nat) (ha : Bool) (s : Int) (ks : List Od), cs = [.string sp, .slice A n c, .bool ha, .int .i64 s] ∧ sp.size ≤ reach ∧ KS W A n c ks := by
  obtain ⟨ys, n1, rfl, rfl, hcl, hyl, hf⟩ := DataW.trod_struct Tryd.underlying26 h
  rw [cells_start] at hcl
  obtain ⟨v0, v1, v2, v3, rfl⟩ := four hcl
  obtain ⟨y0, y1, y2, rfl⟩ := three hyl
  have f0 : DataW.trod enc Tryd.prog W base spare held n1 9 [v0] = some y0 := by simpa [cells_string] using hf 0 _ rfl
  have f1 : DataW.trod enc Tryd.prog W base spare held n1 24 [v1, v2] = some y1 := by simpa [cells_string, cells_key] using hf 1 _ rfl
  have f2 : DataW.trod enc Tryd.prog W base spare held n1 3 [v3] = some y2 := by simpa [cells_string, cells_key, cells_int] using hf 2 _ rfl
  simp only [Light, DataW.weights, Tryd.underlying26, List.map, DataW.weightsEach, List.mem_append] at hw
  obtain ⟨sp, e0, rfl, _⟩ := DataW.trod_string Tryd.underlying9 f0
  simp only [List.cons.injEq, and_true] at e0
  subst e0
  obtain ⟨s, e2, rfl, _⟩ := DataW.trod_int Tryd.underlying3 f2
  simp only [List.cons.injEq, and_true] at e2
  subst e2
  have w1 : ∀ z ∈ y1.1.weights Tryd.prog 24, z ≤ reach0 := fun z hz => hw z (.inr (.inl hz))
  obtain ⟨ys, n2, rfl, rfl, hcl2, hyl2, hf2⟩ := DataW.trod_struct Tryd.underlying24 f1
  obtain ⟨z0, z1, rfl⟩ := two hyl2
  have g0 : DataW.trod enc Tryd.prog W base spare held n2 22 [v1] = some z0 := by simpa [cells_orders] using hf2 0 _ rfl
  have g1 : DataW.trod enc Tryd.prog W base spare held n2 4 [v2] = some z1 := by simpa [cells_orders, cells_bool] using hf2 1 _ rfl
  simp only [DataW.weights, Tryd.underlying24, List.map, DataW.weightsEach, List.mem_append] at w1
  obtain ⟨A, n, c, ks, rfl, hk⟩ := read_orders n2 g0 (fun z hz => w1 z (.inl hz))
  obtain ⟨ha, e3, rfl⟩ := DataW.trod_bool Tryd.underlying4 g1
  simp only [List.cons.injEq, and_true] at e3
  subst e3
  exact ⟨sp, A, n, c, ha, s, ks, rfl, Nat.le_trans (hw sp.size (.inl (by simp [DataW.weights]))) le_reach, hk⟩
theorem open_start {r : Reach} {b0 : Nat} {v : Value} {d : DataW H} {p : List MemPlace} (hv : Value.okWide Tryd.prog W r b0 26 v) (h : DataW.Trod enc Tryd.prog W base spare held 26 v d p) (hw : Light 26 d) :
    ∃ (sp : ByteArray) (A : Option Addr) (n c : Nat) (ha : Bool) (s : Int) (ks : List Od), v = .agg #[.string sp, .slice A n c, .bool ha, .int .i64 s] ∧ sp.size ≤ reach ∧ KS W A n c ks := by
  obtain ⟨cs, rfl, hsz⟩ := okWide_struct Tryd.underlying26 hv
  obtain ⟨fuel, hf⟩ := h
  obtain ⟨sp, A, n, c, ha, s, ks, hc, h1, h2⟩ := read_start fuel _ _ hf hw
  refine ⟨sp, A, n, c, ha, s, ks, ?_, h1, h2⟩
  obtain ⟨l⟩ := cs
  simp only [Value.cells] at hc
  rw [show l = _ from hc]
end
end Go.Proofs.YtgcklgkhdokchaaDoor

namespace Go.Proofs.YtgcklgkhdokchaaDoor
set_option maxRecDepth 100000
open Go.ChangeShapes Go.WideShapes Go.ChangeAt Go.RowKit Go.Joins Go.Deep

theorem bytes_chunk : Tryd.prog.bytesOf 45 = 56 := by kernel_rfl
theorem cells_chunk : Tryd.prog.cellsOf 45 = 5 := by kernel_rfl
theorem cells_chunks : Tryd.prog.cellsOf 28 = 1 := by kernel_rfl
theorem cells_routes : Tryd.prog.cellsOf 30 = 6 := by kernel_rfl
section
variable {H : Type} {enc : TypeId × Value → H} {W : World} {base : Nat} {spare : Nat → Bool} {held : Bool}
theorem read_chunks (n : Nat) {v : Value} {y : DataW H × List MemPlace} (h : DataW.trod enc Tryd.prog W base spare held n 28 [v] = some y) (hw : Light 28 y.1) :
    ∃ (A : Option Addr) (n c : Nat) (cs : List Ch), v = .slice A n c ∧ CS W A n c cs := by
  rcases DataW.trod_slice Tryd.underlying28 h with ⟨hcs, _⟩ | ⟨a, len, cap, elems, rest, n', rfl, hcs, rfl, _, hlc, hcm, hel, hat, _, _⟩
  · simp at hcs
    exact ⟨none, 0, 0, [], hcs, CS.nil⟩
  · simp at hcs
    subst hcs
    simp only [Light, DataW.weights, Tryd.underlying28, List.mem_cons, List.mem_append, bytes_chunk] at hw
    have hsz : len * 56 ≤ reach := by
      have := hw _ (.inl rfl)
      simp only [List.length_map, hel] at this
      have h2 : len * 56 ≤ (len + rest.length) * 56 := Nat.mul_le_mul_right _ (by omega)
      have := le_reach
      omega
    rcases Nat.eq_zero_or_pos len with h0 | hp
    · subst h0
      exact ⟨some a, 0, cap, [], rfl, CS.nil⟩
    have step : ∀ i, i < len → ∃ x : Ch, W.cells? base (a.add (i * 5)) 5 = some (recC x) := by
      intro i hi
      have h1 := hat i hi
      rw [cells_chunk, List.getElem?_eq_getElem (by omega)] at h1
      obtain ⟨cs', hcs', ht'⟩ := Option.bind_eq_some_iff.1 h1
      generalize elems[i] = q at *
      obtain ⟨ys, n'', rfl, rfl, hcl, hyl, hf⟩ := DataW.trod_struct Tryd.underlying45 ht'
      rw [cells_chunk] at hcl
      obtain ⟨v0, v1, v2, v3, v4, rfl⟩ := five hcl
      obtain ⟨y0, y1, y2, y3, y4, rfl⟩ := five hyl
      have f0 : DataW.trod enc Tryd.prog W base spare held n'' 9 [v0] = some y0 := by simpa [cells_string] using hf 0 _ rfl
      have f1 : DataW.trod enc Tryd.prog W base spare held n'' 9 [v1] = some y1 := by simpa [cells_string] using hf 1 _ rfl
      have f2 : DataW.trod enc Tryd.prog W base spare held n'' 3 [v2] = some y2 := by simpa [cells_string, cells_int] using hf 2 _ rfl
      have f3 : DataW.trod enc Tryd.prog W base spare held n'' 3 [v3] = some y3 := by simpa [cells_string, cells_int] using hf 3 _ rfl
      have f4 : DataW.trod enc Tryd.prog W base spare held n'' 4 [v4] = some y4 := by simpa [cells_string, cells_int, cells_bool] using hf 4 _ rfl
      obtain ⟨s0, e0, _⟩ := DataW.trod_string Tryd.underlying9 f0
      obtain ⟨s1, e1, _⟩ := DataW.trod_string Tryd.underlying9 f1
      obtain ⟨i2, e2, _⟩ := DataW.trod_int Tryd.underlying3 f2
      obtain ⟨i3, e3, _⟩ := DataW.trod_int Tryd.underlying3 f3
      obtain ⟨b4, e4, _⟩ := DataW.trod_bool Tryd.underlying4 f4
      simp only [List.cons.injEq, and_true] at e0 e1 e2 e3 e4
      subst e0 e1 e2 e3 e4
      exact ⟨⟨s0, s1, i2, i3, b4⟩, hcs'⟩
    obtain ⟨x0, h0⟩ := step 0 hp
    obtain ⟨b, off, ha, hc0⟩ := cells_at h0 (by omega)
    have ha' : a = ⟨b, off, none⟩ := by simpa [Addr.add] using ha
    subst ha'
    have hbl := World.block_lt_of_cell? W _ ((hc0 0 (by omega)).trans (show (recC x0)[0]? = some _ from rfl))
    obtain ⟨f, hf⟩ := choose_fn (p := fun i (x : Ch) => ∀ j, j < 5 → W.cell? ⟨b, off + i * 5 + j, none⟩ = (recC x)[j]?) x0 len (fun i hi => by
      obtain ⟨x, hcs'⟩ := step i hi
      rw [addr_add] at hcs'
      obtain ⟨b', off', ha', hc⟩ := cells_at hcs' (by omega)
      injection ha' with e1 e2
      subst e1 e2
      exact ⟨x, hc⟩)
    refine ⟨_, len, cap, (List.range len).map f, rfl, ⟨⟨by simp, hlc, fun _ => ⟨b, off, rfl, hbl, fun i x hi j u hj => ?_⟩⟩, hsz⟩⟩
    have hlt : i < len := by have := (List.getElem?_eq_some_iff.1 hi).1; simpa using this
    rw [List.getElem?_map, List.getElem?_range hlt] at hi
    simp only [Option.map_some, Option.some.injEq] at hi
    subst hi
    have hj5 : j < 5 := by have := (List.getElem?_eq_some_iff.1 hj).1; rwa [recC_length] at this
    rw [hf i hlt j hj5]
    exact hj
theorem read_routes (fuel : Nat) (cs : List Value) (y : DataW H × List MemPlace) (h : DataW.trod enc Tryd.prog W base spare held fuel 30 cs = some y) (hw : Light 30 y.1) :
    ∃ (a : RA) (R : Ro), cs = (rarr a R).toList ∧ RR W a R := by
  obtain ⟨ys, n1, rfl, rfl, hcl, hyl, hf⟩ := DataW.trod_struct Tryd.underlying30 h
  rw [cells_routes] at hcl
  obtain ⟨v0, v1, v2, v3, v4, v5, rfl⟩ := six hcl
  obtain ⟨y0, y1, y2, y3, y4, rfl⟩ := five hyl
  have f0 : DataW.trod enc Tryd.prog W base spare held n1 9 [v0] = some y0 := by simpa [cells_string] using hf 0 _ rfl
  have f1 : DataW.trod enc Tryd.prog W base spare held n1 24 [v1, v2] = some y1 := by simpa [cells_string, cells_key] using hf 1 _ rfl
  have f2 : DataW.trod enc Tryd.prog W base spare held n1 3 [v3] = some y2 := by simpa [cells_string, cells_key, cells_int] using hf 2 _ rfl
  have f3 : DataW.trod enc Tryd.prog W base spare held n1 3 [v4] = some y3 := by simpa [cells_string, cells_key, cells_int] using hf 3 _ rfl
  have f4 : DataW.trod enc Tryd.prog W base spare held n1 28 [v5] = some y4 := by simpa [cells_string, cells_key, cells_int, cells_chunks] using hf 4 _ rfl
  simp only [Light, DataW.weights, Tryd.underlying30, List.map, DataW.weightsEach, List.mem_append] at hw
  obtain ⟨sp, e0, rfl, _⟩ := DataW.trod_string Tryd.underlying9 f0
  obtain ⟨ep, e2, _⟩ := DataW.trod_int Tryd.underlying3 f2
  obtain ⟨ve, e3, _⟩ := DataW.trod_int Tryd.underlying3 f3
  simp only [List.cons.injEq, and_true] at e0 e2 e3
  subst e0 e2 e3
  have w1 : ∀ z ∈ y1.1.weights Tryd.prog 24, z ≤ reach0 := fun z hz => hw z (.inr (.inl hz))
  have w4 : Light 28 y4.1 := fun z hz => hw z (.inr (.inr (.inr (.inr (.inl hz)))))
  obtain ⟨ys, n2, rfl, rfl, hcl2, hyl2, hf2⟩ := DataW.trod_struct Tryd.underlying24 f1
  obtain ⟨z0, z1, rfl⟩ := two hyl2
  have g0 : DataW.trod enc Tryd.prog W base spare held n2 22 [v1] = some z0 := by simpa [cells_orders] using hf2 0 _ rfl
  have g1 : DataW.trod enc Tryd.prog W base spare held n2 4 [v2] = some z1 := by simpa [cells_orders, cells_bool] using hf2 1 _ rfl
  simp only [DataW.weights, Tryd.underlying24, List.map, DataW.weightsEach, List.mem_append] at w1
  obtain ⟨KA, kn, kc, ks, rfl, hk⟩ := read_orders n2 g0 (fun z hz => w1 z (.inl hz))
  obtain ⟨ha, e5, rfl⟩ := DataW.trod_bool Tryd.underlying4 g1
  simp only [List.cons.injEq, and_true] at e5
  subst e5
  obtain ⟨CA, cn, cc, cs, rfl, hc⟩ := read_chunks _ f4 w4
  exact ⟨⟨KA, kn, kc, CA, cn, cc⟩, ⟨sp, ks, ha, ep, ve, cs⟩, rfl, Nat.le_trans (hw sp.size (.inl (by simp [DataW.weights]))) le_reach, hk, hc⟩
theorem open_routes {r : Reach} {b0 : Nat} {v : Value} {d : DataW H} {p : List MemPlace} (hv : Value.okWide Tryd.prog W r b0 30 v) (h : DataW.Trod enc Tryd.prog W base spare held 30 v d p) (hw : Light 30 d) :
    ∃ (a : RA) (R : Ro), v = rval a R ∧ RR W a R := by
  obtain ⟨cs, rfl, hsz⟩ := okWide_struct Tryd.underlying30 hv
  obtain ⟨fuel, hf⟩ := h
  obtain ⟨a, R, hc, h1⟩ := read_routes fuel _ _ hf hw
  refine ⟨a, R, ?_, h1⟩
  obtain ⟨l⟩ := cs
  simp only [Value.cells] at hc
  rw [show l = _ from hc]
end
end Go.Proofs.YtgcklgkhdokchaaDoor

namespace Go.Proofs.YtgcklgkhdokchaaDoor
set_option maxRecDepth 100000
open Go.ChangeShapes Go.WideShapes Go.ChangeAt Go.RowKit Go.Joins Go.Deep

theorem cells_change : Tryd.prog.cellsOf 40 = 4 := by kernel_rfl
section
variable {H : Type} {enc : TypeId × Value → H} {W : World} {base : Nat} {spare : Nat → Bool} {held : Bool}
theorem read_change (fuel : Nat) (cs : List Value) (y : DataW H × List MemPlace) (h : DataW.trod enc Tryd.prog W base spare held fuel 40 cs = some y) (hw : Light 40 y.1) :
    ∃ (k : Int) (key : ByteArray) (z : Int) (j : Bool), cs = [.int .i64 k, .string key, .int .i64 z, .bool j] ∧ key.size ≤ reach := by
  obtain ⟨ys, n1, rfl, rfl, hcl, hyl, hf⟩ := DataW.trod_struct Tryd.underlying40 h
  rw [cells_change] at hcl
  obtain ⟨v0, v1, v2, v3, rfl⟩ := four hcl
  obtain ⟨y0, y1, y2, y3, rfl⟩ := four hyl
  have f0 : DataW.trod enc Tryd.prog W base spare held n1 3 [v0] = some y0 := by simpa [cells_int] using hf 0 _ rfl
  have f1 : DataW.trod enc Tryd.prog W base spare held n1 9 [v1] = some y1 := by simpa [cells_string, cells_int] using hf 1 _ rfl
  have f2 : DataW.trod enc Tryd.prog W base spare held n1 3 [v2] = some y2 := by simpa [cells_string, cells_int] using hf 2 _ rfl
  have f3 : DataW.trod enc Tryd.prog W base spare held n1 4 [v3] = some y3 := by simpa [cells_string, cells_int, cells_bool] using hf 3 _ rfl
  simp only [Light, DataW.weights, Tryd.underlying40, List.map, DataW.weightsEach, List.mem_append] at hw
  obtain ⟨k, e0, rfl, _⟩ := DataW.trod_int Tryd.underlying3 f0
  obtain ⟨key, e1, rfl, _⟩ := DataW.trod_string Tryd.underlying9 f1
  obtain ⟨z, e2, rfl, _⟩ := DataW.trod_int Tryd.underlying3 f2
  obtain ⟨j, e3, rfl⟩ := DataW.trod_bool Tryd.underlying4 f3
  simp only [List.cons.injEq, and_true] at e0 e1 e2 e3
  subst e0 e1 e2 e3
  exact ⟨k, key, z, j, rfl, Nat.le_trans (hw key.size (.inr (.inl (by simp [DataW.weights])))) le_reach⟩
theorem open_change {r : Reach} {b0 : Nat} {v : Value} {d : DataW H} {p : List MemPlace} (hv : Value.okWide Tryd.prog W r b0 40 v) (h : DataW.Trod enc Tryd.prog W base spare held 40 v d p) (hw : Light 40 d) :
    ∃ (k : Int) (key : ByteArray) (z : Int) (j : Bool), v = .agg #[.int .i64 k, .string key, .int .i64 z, .bool j] ∧ key.size ≤ reach := by
  obtain ⟨cs, rfl, hsz⟩ := okWide_struct Tryd.underlying40 hv
  obtain ⟨fuel, hf⟩ := h
  obtain ⟨k, key, z, j, hc, h1⟩ := read_change fuel _ _ hf hw
  refine ⟨k, key, z, j, ?_, h1⟩
  obtain ⟨l⟩ := cs
  simp only [Value.cells] at hc
  rw [show l = _ from hc]
end
end Go.Proofs.YtgcklgkhdokchaaDoor
