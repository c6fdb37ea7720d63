/- Parts of the proof, joined: ValOpen, IvCopy. -/
import Derived.Test.YtfkapannahcjiaaGreatDoorAp1
import Derived.Test.YtfkapannahcjiaaGreatDoorAp3
import Derived.Lib.SmallJoins
import Derived.ProofKit
import Derived.OpenShut
import Derived.Deep.Slices
/- A value that came in, opened: its reading gives the tree. -/
namespace Go.Proofs.YtfkapannahcjiaaGreatDoor
set_option maxRecDepth 100000
open Go.ChangeShapes Go.WideShapes Go.ChangeAt Go.RowKit Go.Joins Go.Deep


/-- every weight of a reading is within the form's reach -/
def Light {H : Type} (t : TypeId) (d : DataW H) : Prop := ∀ z ∈ d.weights Tryz.prog t, z ≤ reach0
theorem light_all {H : Type} {t : TypeId} {l : List (DataW H)} (h : ∀ z ∈ DataW.weightsAll Tryz.prog t l, z ≤ reach0) : ∀ d ∈ l, Light t d := by
  induction l with
  | nil => intro d hd; simp at hd
  | cons x r ih =>
    intro d hd
    simp only [DataW.weightsAll, List.mem_append] at h
    rcases List.mem_cons.1 hd with rfl | hd
    · exact fun z hz => h z (.inl hz)
    · exact ih (fun z hz => h z (.inr hz)) d hd

theorem light_each {H : Type} {t : TypeId} {ts : List TypeId} {d : DataW H} {r : List (DataW H)} (h : (DataW.weightsEach Tryz.prog (t :: ts) (d :: r)).all (· ≤ reachBytes) = true) : Light t d ∧ (DataW.weightsEach Tryz.prog ts r).all (· ≤ reachBytes) = true := by
  simp only [DataW.weightsEach, List.all_append, Bool.and_eq_true] at h
  refine ⟨fun z hz => ?_, h.2⟩
  have := List.all_eq_true.1 h.1 z hz
  exact of_decide_eq_true this

theorem bytes_value : Tryz.prog.bytesOf 29 = 80 := by kernel_rfl
theorem bytes_field : Tryz.prog.bytesOf 59 = 96 := by kernel_rfl
theorem cells_value : Tryz.prog.cellsOf 29 = 5 := by kernel_rfl
theorem cells_field : Tryz.prog.cellsOf 59 = 6 := by kernel_rfl
theorem cells_int : Tryz.prog.cellsOf 3 = 1 := by kernel_rfl
theorem cells_string : Tryz.prog.cellsOf 9 = 1 := by kernel_rfl
theorem cells_list : Tryz.prog.cellsOf 26 = 1 := by kernel_rfl
theorem cells_doc : Tryz.prog.cellsOf 27 = 1 := by kernel_rfl

theorem five {α : Type} {l : List α} (h : l.length = 5) : ∃ a b c d e, l = [a, b, c, d, e] := by
  match l, h with
  | [a, b, c, d, e], _ => exact ⟨a, b, c, d, e, rfl⟩
theorem six {α : Type} {l : List α} (h : l.length = 6) : ∃ a b c d e f, l = [a, b, c, d, e, f] := by
  match l, h with
  | [a, b, c, d, e, f], _ => exact ⟨a, b, c, d, e, f, rfl⟩
theorem two {α : Type} {l : List α} (h : l.length = 2) : ∃ a b, l = [a, b] := by
  match l, h with
  | [a, b], _ => exact ⟨a, b, rfl⟩

section
variable {H : Type} {enc : TypeId × Value → H} {W : World} {base : Nat} {spare : Nat → Bool} {held : Bool}

theorem cells_at {a : Addr} {n : Nat} {cs : List Value} (h : W.cells? base a n = some cs) (hn : 0 < n) : ∃ b off, a = ⟨b, off, none⟩ ∧ ∀ i, i < n → W.cell? ⟨b, off + i, none⟩ = cs[i]? := by
  obtain ⟨_, hl, hat⟩ := World.cells?_some h
  obtain ⟨b, off, spot⟩ := a
  have h0 := hat 0 hn
  rw [List.getElem?_eq_getElem (by omega)] at h0
  have hs : spot = none := by simpa [Addr.add] using World.cell?_spot h0
  subst hs
  exact ⟨b, off, rfl, fun i hi => by rw [← addr_add]; exact hat i hi⟩

/-- all values of smaller readings are trees -/
def ReadsV (H : Type) (enc : TypeId × Value → H) (W : World) (base : Nat) (spare : Nat → Bool) (held : Bool) (n : Nat) : Prop :=
  ∀ (cs : List Value) (y : DataW H × List MemPlace), DataW.trod enc Tryz.prog W base spare held n 29 cs = some y → Light 29 y.1 → ∃ c x, cs = c.list ∧ RW W c x

theorem choose_fn {α : Type} {p : Nat → α → Prop} (d : α) (len : Nat) (h : ∀ i, i < len → ∃ x, p i x) : ∃ f : Nat → α, ∀ i, i < len → p i (f i) := by
  refine ⟨fun i => if h' : i < len then (h i h').choose else d, fun i h' => ?_⟩
  simp only [dif_pos h']
  exact (h i h').choose_spec

theorem read_list (n : Nat) {v : Value} {y : DataW H × List MemPlace} (ih : ∀ n', n' < n → ReadsV H enc W base spare held n') (h : DataW.trod enc Tryz.prog W base spare held n 26 [v] = some y) (hw : Light 26 y.1) :
    ∃ (LA : Option Addr) (ln lc : Nat) (l : List Val), v = .slice LA ln lc ∧ ln = l.length ∧ ln ≤ lc ∧ ln * 80 ≤ reach ∧ (0 < ln → ∃ b off, LA = some ⟨b, off, none⟩ ∧ ∀ (i : Nat) (y : Val), l[i]? = some y → ∃ e, VAt W b (off + i * 5) e ∧ RW W e y) := by
  rcases DataW.trod_slice Tryz.underlying26 h with ⟨hcs, _⟩ | ⟨a, len, cap, elems, rest, n', rfl, hcs, rfl, _, hlc, hcm, hel, hat, _, _⟩
  · simp at hcs
    exact ⟨none, 0, 0, [], hcs, rfl, Nat.le_refl _, by decide, fun h => absurd h (by omega)⟩
  · simp at hcs
    subst hcs
    simp only [Light, DataW.weights, Tryz.underlying26, List.mem_cons, List.mem_append, bytes_value] at hw
    have hsz : len * 80 ≤ reach := by
      have := hw _ (.inl rfl)
      simp only [List.length_map, hel] at this
      have h2 : len * 80 ≤ (len + rest.length) * 80 := Nat.mul_le_mul_right _ (by omega)
      have := le_reach
      omega
    have wl := light_all (l := elems.map (·.1)) (fun z hz => hw z (.inr (.inl hz)))
    rcases Nat.eq_zero_or_pos len with h0 | hp
    · exact ⟨some a, len, cap, [], rfl, h0, hlc, hsz, fun h => absurd h (by omega)⟩
    have step : ∀ i, i < len → ∃ cs', W.cells? base (a.add (i * 5)) 5 = some cs' ∧ ∃ e x, cs' = VC.list e ∧ RW W e x := by
      intro i hi
      have h1 := hat i hi
      rw [cells_value, List.getElem?_eq_getElem (by omega)] at h1
      obtain ⟨cs', hcs', ht'⟩ := Option.bind_eq_some_iff.1 h1
      exact ⟨cs', hcs', ih n' (by omega) cs' _ ht' (wl _ (List.mem_map_of_mem (List.getElem_mem _)))⟩
    obtain ⟨cs0, h0, _⟩ := step 0 hp
    obtain ⟨b, off, ha, _⟩ := cells_at h0 (by omega)
    have ha' : a = ⟨b, off, none⟩ := by simpa [Addr.add] using ha
    subst ha'
    obtain ⟨f, hf⟩ := choose_fn (p := fun i x => ∃ e, VAt W b (off + i * 5) e ∧ RW W e x) Val.zero len (fun i hi => by
      obtain ⟨cs', hcs', e, x, rfl, hx⟩ := step i hi
      rw [addr_add] at hcs'
      obtain ⟨b', off', ha', hc⟩ := cells_at hcs' (by omega)
      injection ha' with e1 e2
      subst e1 e2
      exact ⟨x, e, ⟨hc 0 (by omega), hc 1 (by omega), hc 2 (by omega), hc 3 (by omega), hc 4 (by omega)⟩, hx⟩)
    refine ⟨_, len, cap, (List.range len).map f, rfl, by simp, hlc, hsz, fun _ => ⟨b, off, rfl, fun i y hi => ?_⟩⟩
    have hlt : i < len := by have := (List.getElem?_eq_some_iff.1 hi).1; simpa using this
    rw [List.getElem?_map, List.getElem?_range hlt] at hi
    simp only [Option.map_some, Option.some.injEq] at hi
    subst hi
    exact hf i hlt

theorem read_doc (n : Nat) {v : Value} {y : DataW H × List MemPlace} (ih : ∀ n', n' < n → ReadsV H enc W base spare held n') (h : DataW.trod enc Tryz.prog W base spare held n 27 [v] = some y) (hw : Light 27 y.1) :
    ∃ (DA : Option Addr) (dn dc : Nat) (d : List Fld), v = .slice DA dn dc ∧ dn = d.length ∧ dn ≤ dc ∧ dn * 96 ≤ reach0 ∧ (0 < dn → ∃ b off, DA = some ⟨b, off, none⟩ ∧ ∀ (i : Nat) (f : Fld), d[i]? = some f → W.cell? ⟨b, off + i * 6, none⟩ = some (.string f.s) ∧ f.s.size ≤ reach ∧ ∃ e, VAt W b (off + i * 6 + 1) e ∧ RW W e f.v) := by
  rcases DataW.trod_slice Tryz.underlying27 h with ⟨hcs, _⟩ | ⟨a, len, cap, elems, rest, n', rfl, hcs, rfl, _, hlc, hcm, hel, hat, _, _⟩
  · simp at hcs
    exact ⟨none, 0, 0, [], hcs, rfl, Nat.le_refl _, by decide, fun h => absurd h (by omega)⟩
  · simp at hcs
    subst hcs
    simp only [Light, DataW.weights, Tryz.underlying27, List.mem_cons, List.mem_append, bytes_field] at hw
    have hsz : len * 96 ≤ reach0 := by
      have := hw _ (.inl rfl)
      simp only [List.length_map, hel] at this
      have h2 : len * 96 ≤ (len + rest.length) * 96 := Nat.mul_le_mul_right _ (by omega)
      omega
    have wl := light_all (l := elems.map (·.1)) (fun z hz => hw z (.inr (.inl hz)))
    rcases Nat.eq_zero_or_pos len with h0 | hp
    · exact ⟨some a, len, cap, [], rfl, h0, hlc, hsz, fun h => absurd h (by omega)⟩
    have step : ∀ i, i < len → ∃ cs', W.cells? base (a.add (i * 6)) 6 = some cs' ∧ ∃ (s : ByteArray) (e : VC) (x : Val), cs' = .string s :: VC.list e ∧ s.size ≤ reach ∧ RW W e x := by
      intro i hi
      have h1 := hat i hi
      rw [cells_field, List.getElem?_eq_getElem (by omega)] at h1
      obtain ⟨cs', hcs', ht'⟩ := Option.bind_eq_some_iff.1 h1
      have hwi := wl _ (List.mem_map_of_mem (List.getElem_mem (l := elems) (n := i) (by omega)))
      generalize elems[i] = q at *
      obtain ⟨ys, n'', rfl, rfl, hcl, hyl, hf⟩ := DataW.trod_struct Tryz.underlying59 ht'
      rw [cells_field] at hcl
      obtain ⟨v0, v1, v2, v3, v4, v5, rfl⟩ := six hcl
      obtain ⟨y0, y1, rfl⟩ := two hyl
      have f0 : DataW.trod enc Tryz.prog W base spare held n'' 9 [v0] = some y0 := by simpa [cells_string] using hf 0 _ rfl
      have f1 : DataW.trod enc Tryz.prog W base spare held n'' 29 [v1, v2, v3, v4, v5] = some y1 := by simpa [cells_value] using hf 1 _ rfl
      obtain ⟨s, e0, rfl, _⟩ := DataW.trod_string Tryz.underlying9 f0
      simp only [List.cons.injEq, and_true] at e0
      subst e0
      simp only [Light, DataW.weights, Tryz.underlying59, List.map, DataW.weightsEach, List.mem_append] at hwi
      obtain ⟨e, x, he, hx⟩ := ih n'' (by omega) _ _ f1 (fun z hz => hwi z (.inr (.inl hz)))
      refine ⟨_, hcs', s, e, x, by rw [he], Nat.le_trans (hwi s.size (.inl (by simp))) le_reach, hx⟩
    obtain ⟨cs0, h0, _⟩ := step 0 hp
    obtain ⟨b, off, ha, _⟩ := cells_at h0 (by omega)
    have ha' : a = ⟨b, off, none⟩ := by simpa [Addr.add] using ha
    subst ha'
    obtain ⟨f, hf⟩ := choose_fn (p := fun i (f : Fld) => W.cell? ⟨b, off + i * 6, none⟩ = some (.string f.s) ∧ f.s.size ≤ reach ∧ ∃ e, VAt W b (off + i * 6 + 1) e ∧ RW W e f.v) (.mk ByteArray.empty Val.zero) len (fun i hi => by
      obtain ⟨cs', hcs', s, e, x, rfl, hs, hx⟩ := step i hi
      rw [addr_add] at hcs'
      obtain ⟨b', off', ha', hc⟩ := cells_at hcs' (by omega)
      injection ha' with e1 e2
      subst e1 e2
      exact ⟨.mk s x, hc 0 (by omega), hs, e, ⟨hc 1 (by omega), hc 2 (by omega), hc 3 (by omega), hc 4 (by omega), hc 5 (by omega)⟩, hx⟩)
    refine ⟨_, len, cap, (List.range len).map f, rfl, by simp, hlc, hsz, fun _ => ⟨b, off, rfl, fun i y hi => ?_⟩⟩
    have hlt : i < len := by have := (List.getElem?_eq_some_iff.1 hi).1; simpa using this
    rw [List.getElem?_map, List.getElem?_range hlt] at hi
    simp only [Option.map_some, Option.some.injEq] at hi
    subst hi
    exact hf i hlt

theorem read_value_d : ∀ (fuel : Nat) (cs : List Value) (y : DataW H × List MemPlace), DataW.trod enc Tryz.prog W base spare held fuel 29 cs = some y → Light 29 y.1 → ∃ c x, cs = c.list ∧ RW W c x ∧ c.dn * 96 ≤ reach0 := by
  intro fuel
  induction fuel using Nat.strongRecOn with
  | _ fuel ih =>
  intro cs y h hw
  obtain ⟨ys, n, rfl, rfl, hcl, hyl, hf⟩ := DataW.trod_struct Tryz.underlying29 h
  rw [cells_value] at hcl
  obtain ⟨v0, v1, v2, v3, v4, rfl⟩ := five hcl
  obtain ⟨y0, y1, y2, y3, y4, rfl⟩ := five hyl
  have f0 : DataW.trod enc Tryz.prog W base spare held n 3 [v0] = some y0 := by simpa [cells_int] using hf 0 _ rfl
  have f1 : DataW.trod enc Tryz.prog W base spare held n 3 [v1] = some y1 := by simpa [cells_int] using hf 1 _ rfl
  have f2 : DataW.trod enc Tryz.prog W base spare held n 9 [v2] = some y2 := by simpa [cells_string] using hf 2 _ rfl
  have f3 : DataW.trod enc Tryz.prog W base spare held n 26 [v3] = some y3 := by simpa [cells_list] using hf 3 _ rfl
  have f4 : DataW.trod enc Tryz.prog W base spare held n 27 [v4] = some y4 := by simpa [cells_doc] using hf 4 _ rfl
  obtain ⟨k, e0, rfl, _⟩ := DataW.trod_int Tryz.underlying3 f0
  obtain ⟨m, e1, rfl, _⟩ := DataW.trod_int Tryz.underlying3 f1
  obtain ⟨t, e2, rfl, _⟩ := DataW.trod_string Tryz.underlying9 f2
  simp only [List.cons.injEq, and_true] at e0 e1 e2
  subst e0 e1 e2
  have hw' : Light 9 (DataW.lit (H := H) (.string t.data.toList)) ∧ Light 26 y3.1 ∧ Light 27 y4.1 := by
    simp only [Light, DataW.weights, Tryz.underlying29, List.map, DataW.weightsEach, List.mem_append] at hw
    refine ⟨fun z hz => hw z ?_, fun z hz => hw z ?_, fun z hz => hw z ?_⟩
    · simp only [DataW.weights] at hz
      exact .inr (.inr (.inl hz))
    · exact .inr (.inr (.inr (.inl hz)))
    · exact .inr (.inr (.inr (.inr (.inl hz))))
  obtain ⟨w2, w3, w4⟩ := hw'
  have htz : t.size ≤ reach := Nat.le_trans (w2 t.size (by simp [DataW.weights])) le_reach
  have ih' : ∀ n', n' < n + 1 → ReadsV H enc W base spare held n' := fun n' hn cs y h1 h2 => by
    obtain ⟨c, x, e, r, _⟩ := ih n' (by omega) cs y h1 h2
    exact ⟨c, x, e, r⟩
  obtain ⟨LA, ln, lc, l, rfl, hl1, hl2, hl3, hl4⟩ := read_list n (fun n' hn => ih' n' (by omega)) f3 w3
  obtain ⟨DA, dn, dc, d, rfl, hd1, hd2, hd3, hd4⟩ := read_doc n (fun n' hn => ih' n' (by omega)) f4 w4
  refine ⟨⟨k, m, t, LA, ln, lc, DA, dn, dc⟩, .mk k m t l d, rfl, RVs.shut ⟨rfl, rfl, rfl, htz, hl1, hl2, hl3, fun hp => ?_, hd1, hd2, Nat.le_trans hd3 le_reach, fun hp => ?_⟩, hd3⟩
  · obtain ⟨b, off, e, h⟩ := hl4 hp
    exact ⟨b, off, e, Ft.top, h⟩
  · obtain ⟨b, off, e, h⟩ := hd4 hp
    exact ⟨b, off, e, Ft.top, h⟩

theorem read_value (fuel : Nat) (cs : List Value) (y : DataW H × List MemPlace) (h : DataW.trod enc Tryz.prog W base spare held fuel 29 cs = some y) (hl : Light 29 y.1) : ∃ c x, cs = c.list ∧ RW W c x := by
  obtain ⟨c, x, e, r, _⟩ := read_value_d fuel cs y h hl
  exact ⟨c, x, e, r⟩

end
end Go.Proofs.YtfkapannahcjiaaGreatDoor



/- The contract of interval.copyValue. -/
namespace Go.Proofs.YtfkapannahcjiaaGreatDoor
open Go.RowKit

/-- a copy in new memory -/
def CopyOk (w : World) (x : Val) (e : Ending) (w' : World) : Prop := ∃ c : VC, e = .returned c.val ∧ RV (fun b => w.heap.size ≤ b) w' c x ∧ Below w.heap.size w w'

theorem rv_grown {lo : Nat} {v v' : Value} {w3 w4 : World} {o : Obj} {c : VC} {x : Val} (hr : RV (fun b => lo ≤ b ∧ v.ownBlock ≠ some b) w3 c x) (hg : (w3.alloc o).grownBy w4 v.ownBlock) (hat : v'.ownBlock = v.ownBlock ∨ v'.ownBlock = some (w3.alloc o).heap.size) :
    RV (fun b => lo ≤ b ∧ v'.ownBlock ≠ some b) w4 c x := hr.keepG fun b hb hl => by
  have hl' : b < (w3.alloc o).heap.size := by simp; omega
  refine ⟨⟨hb.1, fun e => ?_⟩, (hg.block b hl' (fun e => hb.2 e.symm)).trans (Below.heap_alloc w3 o b hl)⟩
  rcases hat with h | h
  · exact hb.2 (h ▸ e)
  · rw [h] at e
    injection e with e
    omega

/-- the first loop -/
structure CyL (w : World) (c : VC) (l : List Val) (i : Nat) (A : Option Addr) (cap : Nat) (ps : List PV) (wr : World) : Prop where
  b0 : Blk wr w.heap.size 29 c.arr
  b1 : Blk wr (w.heap.size + 1) 29 VC.zero.arr
  b2 : Blk wr (w.heap.size + 1 + 1) 29 (VC.arr ⟨c.k, c.n, c.t, A, i, cap, none, 0, 0⟩)
  own : wr.ownsRow (w.heap.size + 3) 29 5 (.slice A i cap) i (flat recV ps)
  eq : ps.map Prod.snd = l.take i
  el : ∀ p ∈ ps, RV (fun b => w.heap.size + 3 ≤ b ∧ (Value.slice A i cap).ownBlock ≠ some b) wr p.1 p.2
  bel : Below w.heap.size w wr
theorem CyL.step {w : World} {c : VC} {l : List Val} {i : Nat} {A : Option Addr} {cap : Nat} {ps : List PV} {wr w' : World} (h : CyL w c l i A cap ps wr) (hb : Below wr.heap.size wr w') : CyL w c l i A cap ps w' :=
  ⟨h.b0.step hb, h.b1.step hb, h.b2.step hb, own_step h.own hb, h.eq, fun p hp => (h.el p hp).step hb, h.bel.step' hb⟩
theorem CyL.next {w : World} {c u : VC} {l : List Val} {i : Nat} {A A' : Option Addr} {cap cap' : Nat} {ps : List PV} {w3 w4 : World} {o : Obj} {y : Val} (h : CyL w c l i A cap ps w3) (hy : l[i]? = some y)
    (hu : RV (fun b => w.heap.size + 3 ≤ b ∧ (Value.slice A i cap).ownBlock ≠ some b) w3 u y) (hg : (w3.alloc o).grownBy w4 (Value.slice A i cap).ownBlock)
    (hat : (Value.slice A' (i + 1) cap').ownBlock = (Value.slice A i cap).ownBlock ∨ (Value.slice A' (i + 1) cap').ownBlock = some (w3.alloc o).heap.size)
    (hown : w4.ownsRow (w.heap.size + 3) 29 5 (.slice A' (i + 1) cap') (i + 1) (flat recV ps ++ recV (u, y))) :
    CyL w c l (i + 1) A' cap' (ps ++ [(u, y)]) (w4.setCell ⟨w.heap.size + 1 + 1, 3, none⟩ (.slice A' (i + 1) cap')) := by
  have hne : ∀ b, b < w.heap.size + 3 → some b ≠ (Value.slice A i cap).ownBlock := fun b hb e => by have := own_ge h.own b e.symm; omega
  have keep : ∀ b, b < w3.heap.size → some b ≠ (Value.slice A i cap).ownBlock → w4.heap[b]? = w3.heap[b]? := fun b hb hn => (hg.block b (by simp; omega) hn).trans (Below.heap_alloc w3 o b hb)
  have hz := h.b2.lt
  have bl : ∀ {b : Nat} {cs : Array Value}, Blk w3 b 29 cs → b < w.heap.size + 3 → Blk w4 b 29 cs := fun hb hlt => (keep _ hb.lt (hne _ hlt)).trans hb
  refine ⟨(bl h.b0 (by omega)).far (by show w.heap.size ≠ w.heap.size + 1 + 1; omega) _, (bl h.b1 (by omega)).far (by show w.heap.size + 1 ≠ w.heap.size + 1 + 1; omega) _, (bl h.b2 (by omega)).set_ 3 _, ?_, ?_, fun p hp => ?_, ?_⟩
  · rw [flat_snoc]
    exact own_keep hown fun g hg => Below.heap_setCell _ _ _ _ (by have := own_ge hown g hg; show g ≠ w.heap.size + 1 + 1; omega)
  · rw [List.map_append, h.eq, take_snoc' hy]; rfl
  · have hr : RV (fun b => w.heap.size + 3 ≤ b ∧ (Value.slice A' (i + 1) cap').ownBlock ≠ some b) w4 p.1 p.2 := by
      rcases List.mem_append.1 hp with hp | hp
      · exact rv_grown (h.el p hp) hg hat
      · simp at hp; subst hp; exact rv_grown hu hg hat
    exact hr.keepG fun b hb _ => ⟨hb, Below.heap_setCell _ _ _ _ (by show b ≠ w.heap.size + 1 + 1; omega)⟩
  · have h4 : Below w.heap.size w w4 := (h.bel.alloc h.bel.size o).grown hg (by have := h.bel.size; simp; omega) (fun k hk => by have := own_ge h.own k hk; omega)
    exact h4.setCell (by show w.heap.size ≤ w.heap.size + 1 + 1; omega) _

/-- the second loop -/
structure CyD (w : World) (c : VC) (d : List Fld) (LA : Option Addr) (ln lc : Nat) (ps : List PV) (i : Nat) (A : Option Addr) (cap : Nat) (fs : List PF) (wr : World) : Prop where
  b0 : Blk wr w.heap.size 29 c.arr
  b1 : Blk wr (w.heap.size + 1) 29 VC.zero.arr
  b2 : Blk wr (w.heap.size + 1 + 1) 29 (VC.arr ⟨c.k, c.n, c.t, LA, ln, lc, A, i, cap⟩)
  sl : SL (fun b => w.heap.size + 3 ≤ b ∧ (Value.slice A i cap).ownBlock ≠ some b) wr LA ln lc ps
  own : wr.ownsRow (w.heap.size + 3) 59 6 (.slice A i cap) i (flat recF fs)
  eq : fs.map Prod.snd = d.take i
  sz : ∀ p ∈ fs, p.2.s.size ≤ reach
  el : ∀ p ∈ fs, RV (fun b => w.heap.size + 3 ≤ b ∧ (Value.slice A i cap).ownBlock ≠ some b) wr p.1 p.2.v
  bel : Below w.heap.size w wr
theorem CyD.step {w : World} {c : VC} {d : List Fld} {LA : Option Addr} {ln lc : Nat} {ps : List PV} {i : Nat} {A : Option Addr} {cap : Nat} {fs : List PF} {wr w' : World} (h : CyD w c d LA ln lc ps i A cap fs wr) (hb : Below wr.heap.size wr w') : CyD w c d LA ln lc ps i A cap fs w' :=
  ⟨h.b0.step hb, h.b1.step hb, h.b2.step hb, h.sl.step hb, own_step h.own hb, h.eq, h.sz, fun p hp => (h.el p hp).step hb, h.bel.step' hb⟩
theorem CyD.next {w : World} {c u : VC} {d : List Fld} {LA : Option Addr} {ln lc : Nat} {ps : List PV} {i : Nat} {A A' : Option Addr} {cap cap' : Nat} {fs : List PF} {w3 w4 : World} {o : Obj} {f : Fld} (h : CyD w c d LA ln lc ps i A cap fs w3) (hy : d[i]? = some f)
    (hs : f.s.size ≤ reach) (hu : RV (fun b => w.heap.size + 3 ≤ b ∧ (Value.slice A i cap).ownBlock ≠ some b) w3 u f.v) (hg : (w3.alloc o).grownBy w4 (Value.slice A i cap).ownBlock)
    (hat : (Value.slice A' (i + 1) cap').ownBlock = (Value.slice A i cap).ownBlock ∨ (Value.slice A' (i + 1) cap').ownBlock = some (w3.alloc o).heap.size)
    (hown : w4.ownsRow (w.heap.size + 3) 59 6 (.slice A' (i + 1) cap') (i + 1) (flat recF fs ++ recF (u, f))) :
    CyD w c d LA ln lc ps (i + 1) A' cap' (fs ++ [(u, f)]) (w4.setCell ⟨w.heap.size + 1 + 1, 4, none⟩ (.slice A' (i + 1) cap')) := by
  have hne : ∀ b, b < w.heap.size + 3 → some b ≠ (Value.slice A i cap).ownBlock := fun b hb e => by have := own_ge h.own b e.symm; omega
  have keep : ∀ b, b < w3.heap.size → some b ≠ (Value.slice A i cap).ownBlock → w4.heap[b]? = w3.heap[b]? := fun b hb hn => (hg.block b (by simp; omega) hn).trans (Below.heap_alloc w3 o b hb)
  have hz := h.b2.lt
  have bl : ∀ {b : Nat} {cs : Array Value}, Blk w3 b 29 cs → b < w.heap.size + 3 → Blk w4 b 29 cs := fun hb hlt => (keep _ hb.lt (hne _ hlt)).trans hb
  refine ⟨(bl h.b0 (by omega)).far (by show w.heap.size ≠ w.heap.size + 1 + 1; omega) _, (bl h.b1 (by omega)).far (by show w.heap.size + 1 ≠ w.heap.size + 1 + 1; omega) _, (bl h.b2 (by omega)).set_ 4 _, ?_, ?_, ?_, fun p hp => ?_, fun p hp => ?_, ?_⟩
  · refine h.sl.keepG fun b hb hl => ⟨⟨hb.1, fun e => ?_⟩, ?_⟩
    · rcases hat with k | k
      · exact hb.2 (k ▸ e)
      · rw [k] at e; injection e with e; simp at e; omega
    · rw [Below.heap_setCell _ _ _ _ (by show b ≠ w.heap.size + 1 + 1; omega)]
      exact keep b hl (fun e => hb.2 e.symm)
  · rw [flat_snoc]
    exact own_keep hown fun g hg => Below.heap_setCell _ _ _ _ (by have := own_ge hown g hg; show g ≠ w.heap.size + 1 + 1; omega)
  · rw [List.map_append, h.eq, take_snoc' hy]; rfl
  · rcases List.mem_append.1 hp with hp | hp
    · exact h.sz p hp
    · simp at hp; subst hp; exact hs
  · have hr : RV (fun b => w.heap.size + 3 ≤ b ∧ (Value.slice A' (i + 1) cap').ownBlock ≠ some b) w4 p.1 p.2.v := by
      rcases List.mem_append.1 hp with hp | hp
      · exact rv_grown (h.el p hp) hg hat
      · simp at hp; subst hp; exact rv_grown hu hg hat
    exact hr.keepG fun b hb _ => ⟨hb, Below.heap_setCell _ _ _ _ (by show b ≠ w.heap.size + 1 + 1; omega)⟩
  · have h4 : Below w.heap.size w w4 := (h.bel.alloc h.bel.size o).grown hg (by have := h.bel.size; simp; omega) (fun k hk => by have := own_ge h.own k hk; omega)
    exact h4.setCell (by show w.heap.size ≤ w.heap.size + 1 + 1; omega) _
theorem CyD.start {w : World} {c : VC} {l : List Val} {d : List Fld} {i : Nat} {A : Option Addr} {cap : Nat} {ps : List PV} {wr : World} (h : CyL w c l i A cap ps wr) (hl : ps.length = i) (hz : i * 80 ≤ reach) : CyD w c d A i cap ps 0 none 0 [] wr := by
  have hS := SL.of_own (F := fun b => w.heap.size + 3 ≤ b) h.own hl hz (fun _ hb => hb) (fun p hp => (h.el p hp).mono fun b hb => hb.1)
  obtain ⟨A', c', e, hs⟩ := hS
  cases e
  exact ⟨h.b0, h.b1, h.b2, hs.mono fun b hb => ⟨hb, by simp [Value.ownBlock]⟩, own_nil _ _ _ _, rfl, by simp, by simp, h.bel⟩
theorem CyD.done {w : World} {c : VC} {x : Val} {LA : Option Addr} {ln lc : Nat} {ps : List PV} {i : Nat} {A : Option Addr} {cap : Nat} {fs : List PF} {wr : World} (h : CyD w c x.d LA ln lc ps i A cap fs wr) (hx : RW w c x) (hps : ps.map Prod.snd = x.l) (hi : i = x.d.length) (hz : i * 96 ≤ reach) :
    CopyOk w x (.returned (VC.val ⟨c.k, c.n, c.t, LA, ln, lc, A, i, cap⟩)) (setV wr (w.heap.size + 1) 0 ⟨c.k, c.n, c.t, LA, ln, lc, A, i, cap⟩) := by
  have hfl : fs.length = i := by have := congrArg List.length h.eq; rw [List.length_map, List.length_take] at this; omega
  obtain ⟨A', c', e, hd⟩ := SD.of_own (F := fun b => w.heap.size + 3 ≤ b) h.own hfl hz (fun _ hb => hb) h.sz (fun p hp => (h.el p hp).mono fun b hb => hb.1)
  cases e
  have ho := hx.open
  have hr := RV.of_slices (k := c.k) (m := c.n) (t := c.t) (by rw [ho.t]; exact ho.tsz) (h.sl.mono fun b hb => hb.1) hd
  rw [hps, h.eq, List.take_of_length_le (by omega)] at hr
  have hr2 : RV (fun b => w.heap.size + 3 ≤ b) wr ⟨c.k, c.n, c.t, LA, ln, lc, A, i, cap⟩ x := by
    have e1 : x = .mk c.k c.n c.t x.l x.d := by
      cases x
      simp only [Val.l, Val.d]
      rw [ho.k, ho.n, ho.t]
      rfl
    rw [e1]
    exact hr
  exact ⟨_, rfl, hr2.keepG fun b hb _ => ⟨by omega, heap_setV (by omega)⟩, below_setV h.bel (by omega) _ _⟩

end Go.Proofs.YtfkapannahcjiaaGreatDoor


