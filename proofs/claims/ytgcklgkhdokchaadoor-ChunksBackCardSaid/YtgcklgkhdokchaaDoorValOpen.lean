/- A value that came in, opened: its reading gives the tree. -/
import Derived.Test.YtgcklgkhdokchaaDoorVal
import Derived.Lib.SmallJoins
import Derived.ProofKit
import Derived.OpenShut
import Derived.Deep.Slices
namespace Go.Proofs.YtgcklgkhdokchaaDoor
set_option maxRecDepth 100000
open Go.ChangeShapes Go.WideShapes Go.ChangeAt Go.RowKit Go.Joins Go.Deep


/-- every weight of a reading is within the form's reach -/
def Light {H : Type} (t : TypeId) (d : DataW H) : Prop := ∀ z ∈ d.weights Tryd.prog t, z ≤ reach0
theorem light_all {H : Type} {t : TypeId} {l : List (DataW H)} (h : ∀ z ∈ DataW.weightsAll Tryd.prog t l, z ≤ reach0) : ∀ d ∈ l, Light t d := by
  induction l with
  | nil => intro d hd; simp at hd
  | cons x r ih =>
    intro d hd
    simp only [DataW.weightsAll, List.mem_append] at h
    rcases List.mem_cons.1 hd with rfl | hd
    · exact fun z hz => h z (.inl hz)
    · exact ih (fun z hz => h z (.inr hz)) d hd

theorem light_each {H : Type} {t : TypeId} {ts : List TypeId} {d : DataW H} {r : List (DataW H)} (h : (DataW.weightsEach Tryd.prog (t :: ts) (d :: r)).all (· ≤ reachBytes) = true) : Light t d ∧ (DataW.weightsEach Tryd.prog ts r).all (· ≤ reachBytes) = true := by
  simp only [DataW.weightsEach, List.all_append, Bool.and_eq_true] at h
  refine ⟨fun z hz => ?_, h.2⟩
  have := List.all_eq_true.1 h.1 z hz
  exact of_decide_eq_true this

theorem bytes_value : Tryd.prog.bytesOf 78 = 80 := by kernel_rfl
theorem bytes_field : Tryd.prog.bytesOf 81 = 96 := by kernel_rfl
theorem cells_value : Tryd.prog.cellsOf 78 = 5 := by kernel_rfl
theorem cells_field : Tryd.prog.cellsOf 81 = 6 := by kernel_rfl
theorem cells_int : Tryd.prog.cellsOf 3 = 1 := by kernel_rfl
theorem cells_string : Tryd.prog.cellsOf 9 = 1 := by kernel_rfl
theorem cells_list : Tryd.prog.cellsOf 75 = 1 := by kernel_rfl
theorem cells_doc : Tryd.prog.cellsOf 76 = 1 := by kernel_rfl

theorem five {α : Type} {l : List α} (h : l.length = 5) : ∃ a b c d e, l = [a, b, c, d, e] := by
  match l, h with
  | [a, b, c, d, e], _ => exact ⟨a, b, c, d, e, rfl⟩
theorem six {α : Type} {l : List α} (h : l.length = 6) : ∃ a b c d e f, l = [a, b, c, d, e, f] := by
  match l, h with
  | [a, b, c, d, e, f], _ => exact ⟨a, b, c, d, e, f, rfl⟩
theorem two {α : Type} {l : List α} (h : l.length = 2) : ∃ a b, l = [a, b] := by
  match l, h with
  | [a, b], _ => exact ⟨a, b, rfl⟩

section
variable {H : Type} {enc : TypeId × Value → H} {W : World} {base : Nat} {spare : Nat → Bool} {held : Bool}

theorem cells_at {a : Addr} {n : Nat} {cs : List Value} (h : W.cells? base a n = some cs) (hn : 0 < n) : ∃ b off, a = ⟨b, off, none⟩ ∧ ∀ i, i < n → W.cell? ⟨b, off + i, none⟩ = cs[i]? := by
  obtain ⟨_, hl, hat⟩ := World.cells?_some h
  obtain ⟨b, off, spot⟩ := a
  have h0 := hat 0 hn
  rw [List.getElem?_eq_getElem (by omega)] at h0
  have hs : spot = none := by simpa [Addr.add] using World.cell?_spot h0
  subst hs
  exact ⟨b, off, rfl, fun i hi => by rw [← addr_add]; exact hat i hi⟩

/-- all values of smaller readings are trees -/
def ReadsV (H : Type) (enc : TypeId × Value → H) (W : World) (base : Nat) (spare : Nat → Bool) (held : Bool) (n : Nat) : Prop :=
  ∀ (cs : List Value) (y : DataW H × List MemPlace), DataW.trod enc Tryd.prog W base spare held n 78 cs = some y → Light 78 y.1 → ∃ c x, cs = c.list ∧ RW W c x

theorem choose_fn {α : Type} {p : Nat → α → Prop} (d : α) (len : Nat) (h : ∀ i, i < len → ∃ x, p i x) : ∃ f : Nat → α, ∀ i, i < len → p i (f i) := by
  refine ⟨fun i => if h' : i < len then (h i h').choose else d, fun i h' => ?_⟩
  simp only [dif_pos h']
  exact (h i h').choose_spec

theorem read_list (n : Nat) {v : Value} {y : DataW H × List MemPlace} (ih : ∀ n', n' < n → ReadsV H enc W base spare held n') (h : DataW.trod enc Tryd.prog W base spare held n 75 [v] = some y) (hw : Light 75 y.1) :
    ∃ (LA : Option Addr) (ln lc : Nat) (l : List Val), v = .slice LA ln lc ∧ ln = l.length ∧ ln ≤ lc ∧ ln * 80 ≤ reach ∧ (0 < ln → ∃ b off, LA = some ⟨b, off, none⟩ ∧ ∀ (i : Nat) (y : Val), l[i]? = some y → ∃ e, VAt W b (off + i * 5) e ∧ RW W e y) := by
  rcases DataW.trod_slice Tryd.underlying75 h with ⟨hcs, _⟩ | ⟨a, len, cap, elems, rest, n', rfl, hcs, rfl, _, hlc, hcm, hel, hat, _, _⟩
  · simp at hcs
    exact ⟨none, 0, 0, [], hcs, rfl, Nat.le_refl _, by decide, fun h => absurd h (by omega)⟩
  · simp at hcs
    subst hcs
    simp only [Light, DataW.weights, Tryd.underlying75, List.mem_cons, List.mem_append, bytes_value] at hw
    have hsz : len * 80 ≤ reach := by
      have := hw _ (.inl rfl)
      simp only [List.length_map, hel] at this
      have h2 : len * 80 ≤ (len + rest.length) * 80 := Nat.mul_le_mul_right _ (by omega)
      have := le_reach
      omega
    have wl := light_all (l := elems.map (·.1)) (fun z hz => hw z (.inr (.inl hz)))
    rcases Nat.eq_zero_or_pos len with h0 | hp
    · exact ⟨some a, len, cap, [], rfl, h0, hlc, hsz, fun h => absurd h (by omega)⟩
    have step : ∀ i, i < len → ∃ cs', W.cells? base (a.add (i * 5)) 5 = some cs' ∧ ∃ e x, cs' = VC.list e ∧ RW W e x := by
      intro i hi
      have h1 := hat i hi
      rw [cells_value, List.getElem?_eq_getElem (by omega)] at h1
      obtain ⟨cs', hcs', ht'⟩ := Option.bind_eq_some_iff.1 h1
      exact ⟨cs', hcs', ih n' (by omega) cs' _ ht' (wl _ (List.mem_map_of_mem (List.getElem_mem _)))⟩
    obtain ⟨cs0, h0, _⟩ := step 0 hp
    obtain ⟨b, off, ha, _⟩ := cells_at h0 (by omega)
    have ha' : a = ⟨b, off, none⟩ := by simpa [Addr.add] using ha
    subst ha'
    obtain ⟨f, hf⟩ := choose_fn (p := fun i x => ∃ e, VAt W b (off + i * 5) e ∧ RW W e x) Val.zero len (fun i hi => by
      obtain ⟨cs', hcs', e, x, rfl, hx⟩ := step i hi
      rw [addr_add] at hcs'
      obtain ⟨b', off', ha', hc⟩ := cells_at hcs' (by omega)
      injection ha' with e1 e2
      subst e1 e2
      exact ⟨x, e, ⟨hc 0 (by omega), hc 1 (by omega), hc 2 (by omega), hc 3 (by omega), hc 4 (by omega)⟩, hx⟩)
    refine ⟨_, len, cap, (List.range len).map f, rfl, by simp, hlc, hsz, fun _ => ⟨b, off, rfl, fun i y hi => ?_⟩⟩
    have hlt : i < len := by have := (List.getElem?_eq_some_iff.1 hi).1; simpa using this
    rw [List.getElem?_map, List.getElem?_range hlt] at hi
    simp only [Option.map_some, Option.some.injEq] at hi
    subst hi
    exact hf i hlt

theorem read_doc (n : Nat) {v : Value} {y : DataW H × List MemPlace} (ih : ∀ n', n' < n → ReadsV H enc W base spare held n') (h : DataW.trod enc Tryd.prog W base spare held n 76 [v] = some y) (hw : Light 76 y.1) :
    ∃ (DA : Option Addr) (dn dc : Nat) (d : List Fld), v = .slice DA dn dc ∧ dn = d.length ∧ dn ≤ dc ∧ dn * 96 ≤ reach0 ∧ (0 < dn → ∃ b off, DA = some ⟨b, off, none⟩ ∧ ∀ (i : Nat) (f : Fld), d[i]? = some f → W.cell? ⟨b, off + i * 6, none⟩ = some (.string f.s) ∧ f.s.size ≤ reach ∧ ∃ e, VAt W b (off + i * 6 + 1) e ∧ RW W e f.v) := by
  rcases DataW.trod_slice Tryd.underlying76 h with ⟨hcs, _⟩ | ⟨a, len, cap, elems, rest, n', rfl, hcs, rfl, _, hlc, hcm, hel, hat, _, _⟩
  · simp at hcs
    exact ⟨none, 0, 0, [], hcs, rfl, Nat.le_refl _, by decide, fun h => absurd h (by omega)⟩
  · simp at hcs
    subst hcs
    simp only [Light, DataW.weights, Tryd.underlying76, List.mem_cons, List.mem_append, bytes_field] at hw
    have hsz : len * 96 ≤ reach0 := by
      have := hw _ (.inl rfl)
      simp only [List.length_map, hel] at this
      have h2 : len * 96 ≤ (len + rest.length) * 96 := Nat.mul_le_mul_right _ (by omega)
      omega
    have wl := light_all (l := elems.map (·.1)) (fun z hz => hw z (.inr (.inl hz)))
    rcases Nat.eq_zero_or_pos len with h0 | hp
    · exact ⟨some a, len, cap, [], rfl, h0, hlc, hsz, fun h => absurd h (by omega)⟩
    have step : ∀ i, i < len → ∃ cs', W.cells? base (a.add (i * 6)) 6 = some cs' ∧ ∃ (s : ByteArray) (e : VC) (x : Val), cs' = .string s :: VC.list e ∧ s.size ≤ reach ∧ RW W e x := by
      intro i hi
      have h1 := hat i hi
      rw [cells_field, List.getElem?_eq_getElem (by omega)] at h1
      obtain ⟨cs', hcs', ht'⟩ := Option.bind_eq_some_iff.1 h1
      have hwi := wl _ (List.mem_map_of_mem (List.getElem_mem (l := elems) (n := i) (by omega)))
      generalize elems[i] = q at *
      obtain ⟨ys, n'', rfl, rfl, hcl, hyl, hf⟩ := DataW.trod_struct Tryd.underlying81 ht'
      rw [cells_field] at hcl
      obtain ⟨v0, v1, v2, v3, v4, v5, rfl⟩ := six hcl
      obtain ⟨y0, y1, rfl⟩ := two hyl
      have f0 : DataW.trod enc Tryd.prog W base spare held n'' 9 [v0] = some y0 := by simpa [cells_string] using hf 0 _ rfl
      have f1 : DataW.trod enc Tryd.prog W base spare held n'' 78 [v1, v2, v3, v4, v5] = some y1 := by simpa [cells_value] using hf 1 _ rfl
      obtain ⟨s, e0, rfl, _⟩ := DataW.trod_string Tryd.underlying9 f0
      simp only [List.cons.injEq, and_true] at e0
      subst e0
      simp only [Light, DataW.weights, Tryd.underlying81, List.map, DataW.weightsEach, List.mem_append] at hwi
      obtain ⟨e, x, he, hx⟩ := ih n'' (by omega) _ _ f1 (fun z hz => hwi z (.inr (.inl hz)))
      refine ⟨_, hcs', s, e, x, by rw [he], Nat.le_trans (hwi s.size (.inl (by simp))) le_reach, hx⟩
    obtain ⟨cs0, h0, _⟩ := step 0 hp
    obtain ⟨b, off, ha, _⟩ := cells_at h0 (by omega)
    have ha' : a = ⟨b, off, none⟩ := by simpa [Addr.add] using ha
    subst ha'
    obtain ⟨f, hf⟩ := choose_fn (p := fun i (f : Fld) => W.cell? ⟨b, off + i * 6, none⟩ = some (.string f.s) ∧ f.s.size ≤ reach ∧ ∃ e, VAt W b (off + i * 6 + 1) e ∧ RW W e f.v) (.mk ByteArray.empty Val.zero) len (fun i hi => by
      obtain ⟨cs', hcs', s, e, x, rfl, hs, hx⟩ := step i hi
      rw [addr_add] at hcs'
      obtain ⟨b', off', ha', hc⟩ := cells_at hcs' (by omega)
      injection ha' with e1 e2
      subst e1 e2
      exact ⟨.mk s x, hc 0 (by omega), hs, e, ⟨hc 1 (by omega), hc 2 (by omega), hc 3 (by omega), hc 4 (by omega), hc 5 (by omega)⟩, hx⟩)
    refine ⟨_, len, cap, (List.range len).map f, rfl, by simp, hlc, hsz, fun _ => ⟨b, off, rfl, fun i y hi => ?_⟩⟩
    have hlt : i < len := by have := (List.getElem?_eq_some_iff.1 hi).1; simpa using this
    rw [List.getElem?_map, List.getElem?_range hlt] at hi
    simp only [Option.map_some, Option.some.injEq] at hi
    subst hi
    exact hf i hlt

theorem read_value_d : ∀ (fuel : Nat) (cs : List Value) (y : DataW H × List MemPlace), DataW.trod enc Tryd.prog W base spare held fuel 78 cs = some y → Light 78 y.1 → ∃ c x, cs = c.list ∧ RW W c x ∧ c.dn * 96 ≤ reach0 := by
  intro fuel
  induction fuel using Nat.strongRecOn with
  | _ fuel ih =>
  intro cs y h hw
  obtain ⟨ys, n, rfl, rfl, hcl, hyl, hf⟩ := DataW.trod_struct Tryd.underlying78 h
  rw [cells_value] at hcl
  obtain ⟨v0, v1, v2, v3, v4, rfl⟩ := five hcl
  obtain ⟨y0, y1, y2, y3, y4, rfl⟩ := five hyl
  have f0 : DataW.trod enc Tryd.prog W base spare held n 3 [v0] = some y0 := by simpa [cells_int] using hf 0 _ rfl
  have f1 : DataW.trod enc Tryd.prog W base spare held n 3 [v1] = some y1 := by simpa [cells_int] using hf 1 _ rfl
  have f2 : DataW.trod enc Tryd.prog W base spare held n 9 [v2] = some y2 := by simpa [cells_string] using hf 2 _ rfl
  have f3 : DataW.trod enc Tryd.prog W base spare held n 75 [v3] = some y3 := by simpa [cells_list] using hf 3 _ rfl
  have f4 : DataW.trod enc Tryd.prog W base spare held n 76 [v4] = some y4 := by simpa [cells_doc] using hf 4 _ rfl
  obtain ⟨k, e0, rfl, _⟩ := DataW.trod_int Tryd.underlying3 f0
  obtain ⟨m, e1, rfl, _⟩ := DataW.trod_int Tryd.underlying3 f1
  obtain ⟨t, e2, rfl, _⟩ := DataW.trod_string Tryd.underlying9 f2
  simp only [List.cons.injEq, and_true] at e0 e1 e2
  subst e0 e1 e2
  have hw' : Light 9 (DataW.lit (H := H) (.string t.data.toList)) ∧ Light 75 y3.1 ∧ Light 76 y4.1 := by
    simp only [Light, DataW.weights, Tryd.underlying78, List.map, DataW.weightsEach, List.mem_append] at hw
    refine ⟨fun z hz => hw z ?_, fun z hz => hw z ?_, fun z hz => hw z ?_⟩
    · simp only [DataW.weights] at hz
      exact .inr (.inr (.inl hz))
    · exact .inr (.inr (.inr (.inl hz)))
    · exact .inr (.inr (.inr (.inr (.inl hz))))
  obtain ⟨w2, w3, w4⟩ := hw'
  have htz : t.size ≤ reach := Nat.le_trans (w2 t.size (by simp [DataW.weights])) le_reach
  have ih' : ∀ n', n' < n + 1 → ReadsV H enc W base spare held n' := fun n' hn cs y h1 h2 => by
    obtain ⟨c, x, e, r, _⟩ := ih n' (by omega) cs y h1 h2
    exact ⟨c, x, e, r⟩
  obtain ⟨LA, ln, lc, l, rfl, hl1, hl2, hl3, hl4⟩ := read_list n (fun n' hn => ih' n' (by omega)) f3 w3
  obtain ⟨DA, dn, dc, d, rfl, hd1, hd2, hd3, hd4⟩ := read_doc n (fun n' hn => ih' n' (by omega)) f4 w4
  refine ⟨⟨k, m, t, LA, ln, lc, DA, dn, dc⟩, .mk k m t l d, rfl, RVs.shut ⟨rfl, rfl, rfl, htz, hl1, hl2, hl3, fun hp => ?_, hd1, hd2, Nat.le_trans hd3 le_reach, fun hp => ?_⟩, hd3⟩
  · obtain ⟨b, off, e, h⟩ := hl4 hp
    exact ⟨b, off, e, Ft.top, h⟩
  · obtain ⟨b, off, e, h⟩ := hd4 hp
    exact ⟨b, off, e, Ft.top, h⟩

theorem read_value (fuel : Nat) (cs : List Value) (y : DataW H × List MemPlace) (h : DataW.trod enc Tryd.prog W base spare held fuel 78 cs = some y) (hl : Light 78 y.1) : ∃ c x, cs = c.list ∧ RW W c x := by
  obtain ⟨c, x, e, r, _⟩ := read_value_d fuel cs y h hl
  exact ⟨c, x, e, r⟩

/-- an argument of type Value -/
theorem open_value_d {r : Reach} {b0 : Nat} {v : Value} {d : DataW H} {p : List MemPlace} (hv : Value.okWide Tryd.prog W r b0 78 v) (h : DataW.Trod enc Tryd.prog W base spare held 78 v d p) (hw : Light 78 d) : ∃ (c : VC) (x : Val), v = c.val ∧ RW W c x ∧ x.d.length * 96 ≤ reach0 := by
  obtain ⟨cs, rfl, hsz⟩ := okWide_struct Tryd.underlying78 hv
  obtain ⟨fuel, hf⟩ := h
  obtain ⟨c, x, hc, hx, hd⟩ := read_value_d fuel _ _ hf hw
  refine ⟨c, x, ?_, hx, by rw [← hx.open.dn]; exact hd⟩
  obtain ⟨l⟩ := cs
  simp only [Value.cells] at hc
  rw [show l = c.list from hc]
  rfl
/-- an argument of type string -/
theorem open_str {r : Reach} {b0 : Nat} {v : Value} {d : DataW H} {p : List MemPlace} (hv : Value.okWide Tryd.prog W r b0 9 v) (h : DataW.Trod enc Tryd.prog W base spare held 9 v d p) (hw : Light 9 d) : ∃ s : ByteArray, v = .string s ∧ s.size ≤ reach0 := by
  obtain ⟨s, rfl⟩ := okWide_string Tryd.underlying9 hv
  obtain ⟨fuel, hf⟩ := h
  obtain ⟨s', e, hd, _⟩ := DataW.trod_string Tryd.underlying9 hf
  injection hd with hd _
  subst hd
  have e' : s = s' := by simpa [Value.cells] using e
  subst e'
  exact ⟨s, rfl, hw s.size (by simp [DataW.weights])⟩

theorem open_value {r : Reach} {b0 : Nat} {v : Value} {d : DataW H} {p : List MemPlace} (hv : Value.okWide Tryd.prog W r b0 78 v) (h : DataW.Trod enc Tryd.prog W base spare held 78 v d p) (hw : Light 78 d) : ∃ (c : VC) (x : Val), v = c.val ∧ RW W c x := by
  obtain ⟨cs, rfl, hsz⟩ := okWide_struct Tryd.underlying78 hv
  obtain ⟨fuel, hf⟩ := h
  obtain ⟨c, x, hc, hx⟩ := read_value fuel _ _ hf hw
  refine ⟨c, x, ?_, hx⟩
  obtain ⟨l⟩ := cs
  simp only [Value.cells] at hc
  rw [show l = c.list from hc]
  rfl
end
end Go.Proofs.YtgcklgkhdokchaaDoor
