/- Parts of the proof, joined: ValOpen, IvCopy, ChBaseA, Kit6, ChBaseB. -/
import Derived.Test.YtlmmgjgkmbmgpaaGreatDoorEb1
import Derived.Test.YtlmmgjgkmbmgpaaGreatDoorEb3
import Derived.Lib.SmallJoins
import Derived.ProofKit
import Derived.OpenShut
import Derived.Deep.Slices
import Derived.Laws.OwnMore
import Derived.Laws.IdiomCopy
import Derived.Lib.SliceRun
import Derived.Shelf.Spec.SlicesInsertGrow
/- A value that came in, opened: its reading gives the tree. -/
namespace Go.Proofs.YtlmmgjgkmbmgpaaGreatDoor
set_option maxRecDepth 100000
open Go.ChangeShapes Go.WideShapes Go.ChangeAt Go.RowKit Go.Joins Go.Deep


/-- every weight of a reading is within the form's reach -/
def Light {H : Type} (t : TypeId) (d : DataW H) : Prop := ∀ z ∈ d.weights Tryz.prog t, z ≤ reach0
theorem light_all {H : Type} {t : TypeId} {l : List (DataW H)} (h : ∀ z ∈ DataW.weightsAll Tryz.prog t l, z ≤ reach0) : ∀ d ∈ l, Light t d := by
  induction l with
  | nil => intro d hd; simp at hd
  | cons x r ih =>
    intro d hd
    simp only [DataW.weightsAll, List.mem_append] at h
    rcases List.mem_cons.1 hd with rfl | hd
    · exact fun z hz => h z (.inl hz)
    · exact ih (fun z hz => h z (.inr hz)) d hd

theorem light_each {H : Type} {t : TypeId} {ts : List TypeId} {d : DataW H} {r : List (DataW H)} (h : (DataW.weightsEach Tryz.prog (t :: ts) (d :: r)).all (· ≤ reachBytes) = true) : Light t d ∧ (DataW.weightsEach Tryz.prog ts r).all (· ≤ reachBytes) = true := by
  simp only [DataW.weightsEach, List.all_append, Bool.and_eq_true] at h
  refine ⟨fun z hz => ?_, h.2⟩
  have := List.all_eq_true.1 h.1 z hz
  exact of_decide_eq_true this

theorem bytes_value : Tryz.prog.bytesOf 46 = 80 := by kernel_rfl
theorem bytes_field : Tryz.prog.bytesOf 98 = 96 := by kernel_rfl
theorem cells_value : Tryz.prog.cellsOf 46 = 5 := by kernel_rfl
theorem cells_field : Tryz.prog.cellsOf 98 = 6 := by kernel_rfl
theorem cells_int : Tryz.prog.cellsOf 3 = 1 := by kernel_rfl
theorem cells_string : Tryz.prog.cellsOf 9 = 1 := by kernel_rfl
theorem cells_list : Tryz.prog.cellsOf 28 = 1 := by kernel_rfl
theorem cells_doc : Tryz.prog.cellsOf 44 = 1 := by kernel_rfl

theorem five {α : Type} {l : List α} (h : l.length = 5) : ∃ a b c d e, l = [a, b, c, d, e] := by
  match l, h with
  | [a, b, c, d, e], _ => exact ⟨a, b, c, d, e, rfl⟩
theorem six {α : Type} {l : List α} (h : l.length = 6) : ∃ a b c d e f, l = [a, b, c, d, e, f] := by
  match l, h with
  | [a, b, c, d, e, f], _ => exact ⟨a, b, c, d, e, f, rfl⟩
theorem two {α : Type} {l : List α} (h : l.length = 2) : ∃ a b, l = [a, b] := by
  match l, h with
  | [a, b], _ => exact ⟨a, b, rfl⟩

section
variable {H : Type} {enc : TypeId × Value → H} {W : World} {base : Nat} {spare : Nat → Bool} {held : Bool}

theorem cells_at {a : Addr} {n : Nat} {cs : List Value} (h : W.cells? base a n = some cs) (hn : 0 < n) : ∃ b off, a = ⟨b, off, none⟩ ∧ ∀ i, i < n → W.cell? ⟨b, off + i, none⟩ = cs[i]? := by
  obtain ⟨_, hl, hat⟩ := World.cells?_some h
  obtain ⟨b, off, spot⟩ := a
  have h0 := hat 0 hn
  rw [List.getElem?_eq_getElem (by omega)] at h0
  have hs : spot = none := by simpa [Addr.add] using World.cell?_spot h0
  subst hs
  exact ⟨b, off, rfl, fun i hi => by rw [← addr_add]; exact hat i hi⟩

/-- all values of smaller readings are trees -/
def ReadsV (H : Type) (enc : TypeId × Value → H) (W : World) (base : Nat) (spare : Nat → Bool) (held : Bool) (n : Nat) : Prop :=
  ∀ (cs : List Value) (y : DataW H × List MemPlace), DataW.trod enc Tryz.prog W base spare held n 46 cs = some y → Light 46 y.1 → ∃ c x, cs = c.list ∧ RW W c x

theorem choose_fn {α : Type} {p : Nat → α → Prop} (d : α) (len : Nat) (h : ∀ i, i < len → ∃ x, p i x) : ∃ f : Nat → α, ∀ i, i < len → p i (f i) := by
  refine ⟨fun i => if h' : i < len then (h i h').choose else d, fun i h' => ?_⟩
  simp only [dif_pos h']
  exact (h i h').choose_spec

theorem read_list (n : Nat) {v : Value} {y : DataW H × List MemPlace} (ih : ∀ n', n' < n → ReadsV H enc W base spare held n') (h : DataW.trod enc Tryz.prog W base spare held n 28 [v] = some y) (hw : Light 28 y.1) :
    ∃ (LA : Option Addr) (ln lc : Nat) (l : List Val), v = .slice LA ln lc ∧ ln = l.length ∧ ln ≤ lc ∧ ln * 80 ≤ reach ∧ (0 < ln → ∃ b off, LA = some ⟨b, off, none⟩ ∧ ∀ (i : Nat) (y : Val), l[i]? = some y → ∃ e, VAt W b (off + i * 5) e ∧ RW W e y) := by
  rcases DataW.trod_slice Tryz.underlying28 h with ⟨hcs, _⟩ | ⟨a, len, cap, elems, rest, n', rfl, hcs, rfl, _, hlc, hcm, hel, hat, _, _⟩
  · simp at hcs
    exact ⟨none, 0, 0, [], hcs, rfl, Nat.le_refl _, by decide, fun h => absurd h (by omega)⟩
  · simp at hcs
    subst hcs
    simp only [Light, DataW.weights, Tryz.underlying28, List.mem_cons, List.mem_append, bytes_value] at hw
    have hsz : len * 80 ≤ reach := by
      have := hw _ (.inl rfl)
      simp only [List.length_map, hel] at this
      have h2 : len * 80 ≤ (len + rest.length) * 80 := Nat.mul_le_mul_right _ (by omega)
      have := le_reach
      omega
    have wl := light_all (l := elems.map (·.1)) (fun z hz => hw z (.inr (.inl hz)))
    rcases Nat.eq_zero_or_pos len with h0 | hp
    · exact ⟨some a, len, cap, [], rfl, h0, hlc, hsz, fun h => absurd h (by omega)⟩
    have step : ∀ i, i < len → ∃ cs', W.cells? base (a.add (i * 5)) 5 = some cs' ∧ ∃ e x, cs' = VC.list e ∧ RW W e x := by
      intro i hi
      have h1 := hat i hi
      rw [cells_value, List.getElem?_eq_getElem (by omega)] at h1
      obtain ⟨cs', hcs', ht'⟩ := Option.bind_eq_some_iff.1 h1
      exact ⟨cs', hcs', ih n' (by omega) cs' _ ht' (wl _ (List.mem_map_of_mem (List.getElem_mem _)))⟩
    obtain ⟨cs0, h0, _⟩ := step 0 hp
    obtain ⟨b, off, ha, _⟩ := cells_at h0 (by omega)
    have ha' : a = ⟨b, off, none⟩ := by simpa [Addr.add] using ha
    subst ha'
    obtain ⟨f, hf⟩ := choose_fn (p := fun i x => ∃ e, VAt W b (off + i * 5) e ∧ RW W e x) Val.zero len (fun i hi => by
      obtain ⟨cs', hcs', e, x, rfl, hx⟩ := step i hi
      rw [addr_add] at hcs'
      obtain ⟨b', off', ha', hc⟩ := cells_at hcs' (by omega)
      injection ha' with e1 e2
      subst e1 e2
      exact ⟨x, e, ⟨hc 0 (by omega), hc 1 (by omega), hc 2 (by omega), hc 3 (by omega), hc 4 (by omega)⟩, hx⟩)
    refine ⟨_, len, cap, (List.range len).map f, rfl, by simp, hlc, hsz, fun _ => ⟨b, off, rfl, fun i y hi => ?_⟩⟩
    have hlt : i < len := by have := (List.getElem?_eq_some_iff.1 hi).1; simpa using this
    rw [List.getElem?_map, List.getElem?_range hlt] at hi
    simp only [Option.map_some, Option.some.injEq] at hi
    subst hi
    exact hf i hlt

theorem read_doc (n : Nat) {v : Value} {y : DataW H × List MemPlace} (ih : ∀ n', n' < n → ReadsV H enc W base spare held n') (h : DataW.trod enc Tryz.prog W base spare held n 44 [v] = some y) (hw : Light 44 y.1) :
    ∃ (DA : Option Addr) (dn dc : Nat) (d : List Fld), v = .slice DA dn dc ∧ dn = d.length ∧ dn ≤ dc ∧ dn * 96 ≤ reach0 ∧ (0 < dn → ∃ b off, DA = some ⟨b, off, none⟩ ∧ ∀ (i : Nat) (f : Fld), d[i]? = some f → W.cell? ⟨b, off + i * 6, none⟩ = some (.string f.s) ∧ f.s.size ≤ reach ∧ ∃ e, VAt W b (off + i * 6 + 1) e ∧ RW W e f.v) := by
  rcases DataW.trod_slice Tryz.underlying44 h with ⟨hcs, _⟩ | ⟨a, len, cap, elems, rest, n', rfl, hcs, rfl, _, hlc, hcm, hel, hat, _, _⟩
  · simp at hcs
    exact ⟨none, 0, 0, [], hcs, rfl, Nat.le_refl _, by decide, fun h => absurd h (by omega)⟩
  · simp at hcs
    subst hcs
    simp only [Light, DataW.weights, Tryz.underlying44, List.mem_cons, List.mem_append, bytes_field] at hw
    have hsz : len * 96 ≤ reach0 := by
      have := hw _ (.inl rfl)
      simp only [List.length_map, hel] at this
      have h2 : len * 96 ≤ (len + rest.length) * 96 := Nat.mul_le_mul_right _ (by omega)
      omega
    have wl := light_all (l := elems.map (·.1)) (fun z hz => hw z (.inr (.inl hz)))
    rcases Nat.eq_zero_or_pos len with h0 | hp
    · exact ⟨some a, len, cap, [], rfl, h0, hlc, hsz, fun h => absurd h (by omega)⟩
    have step : ∀ i, i < len → ∃ cs', W.cells? base (a.add (i * 6)) 6 = some cs' ∧ ∃ (s : ByteArray) (e : VC) (x : Val), cs' = .string s :: VC.list e ∧ s.size ≤ reach ∧ RW W e x := by
      intro i hi
      have h1 := hat i hi
      rw [cells_field, List.getElem?_eq_getElem (by omega)] at h1
      obtain ⟨cs', hcs', ht'⟩ := Option.bind_eq_some_iff.1 h1
      have hwi := wl _ (List.mem_map_of_mem (List.getElem_mem (l := elems) (n := i) (by omega)))
      generalize elems[i] = q at *
      obtain ⟨ys, n'', rfl, rfl, hcl, hyl, hf⟩ := DataW.trod_struct Tryz.underlying98 ht'
      rw [cells_field] at hcl
      obtain ⟨v0, v1, v2, v3, v4, v5, rfl⟩ := six hcl
      obtain ⟨y0, y1, rfl⟩ := two hyl
      have f0 : DataW.trod enc Tryz.prog W base spare held n'' 9 [v0] = some y0 := by simpa [cells_string] using hf 0 _ rfl
      have f1 : DataW.trod enc Tryz.prog W base spare held n'' 46 [v1, v2, v3, v4, v5] = some y1 := by simpa [cells_value] using hf 1 _ rfl
      obtain ⟨s, e0, rfl, _⟩ := DataW.trod_string Tryz.underlying9 f0
      simp only [List.cons.injEq, and_true] at e0
      subst e0
      simp only [Light, DataW.weights, Tryz.underlying98, List.map, DataW.weightsEach, List.mem_append] at hwi
      obtain ⟨e, x, he, hx⟩ := ih n'' (by omega) _ _ f1 (fun z hz => hwi z (.inr (.inl hz)))
      refine ⟨_, hcs', s, e, x, by rw [he], Nat.le_trans (hwi s.size (.inl (by simp))) le_reach, hx⟩
    obtain ⟨cs0, h0, _⟩ := step 0 hp
    obtain ⟨b, off, ha, _⟩ := cells_at h0 (by omega)
    have ha' : a = ⟨b, off, none⟩ := by simpa [Addr.add] using ha
    subst ha'
    obtain ⟨f, hf⟩ := choose_fn (p := fun i (f : Fld) => W.cell? ⟨b, off + i * 6, none⟩ = some (.string f.s) ∧ f.s.size ≤ reach ∧ ∃ e, VAt W b (off + i * 6 + 1) e ∧ RW W e f.v) (.mk ByteArray.empty Val.zero) len (fun i hi => by
      obtain ⟨cs', hcs', s, e, x, rfl, hs, hx⟩ := step i hi
      rw [addr_add] at hcs'
      obtain ⟨b', off', ha', hc⟩ := cells_at hcs' (by omega)
      injection ha' with e1 e2
      subst e1 e2
      exact ⟨.mk s x, hc 0 (by omega), hs, e, ⟨hc 1 (by omega), hc 2 (by omega), hc 3 (by omega), hc 4 (by omega), hc 5 (by omega)⟩, hx⟩)
    refine ⟨_, len, cap, (List.range len).map f, rfl, by simp, hlc, hsz, fun _ => ⟨b, off, rfl, fun i y hi => ?_⟩⟩
    have hlt : i < len := by have := (List.getElem?_eq_some_iff.1 hi).1; simpa using this
    rw [List.getElem?_map, List.getElem?_range hlt] at hi
    simp only [Option.map_some, Option.some.injEq] at hi
    subst hi
    exact hf i hlt

theorem read_value_d : ∀ (fuel : Nat) (cs : List Value) (y : DataW H × List MemPlace), DataW.trod enc Tryz.prog W base spare held fuel 46 cs = some y → Light 46 y.1 → ∃ c x, cs = c.list ∧ RW W c x ∧ c.dn * 96 ≤ reach0 := by
  intro fuel
  induction fuel using Nat.strongRecOn with
  | _ fuel ih =>
  intro cs y h hw
  obtain ⟨ys, n, rfl, rfl, hcl, hyl, hf⟩ := DataW.trod_struct Tryz.underlying46 h
  rw [cells_value] at hcl
  obtain ⟨v0, v1, v2, v3, v4, rfl⟩ := five hcl
  obtain ⟨y0, y1, y2, y3, y4, rfl⟩ := five hyl
  have f0 : DataW.trod enc Tryz.prog W base spare held n 3 [v0] = some y0 := by simpa [cells_int] using hf 0 _ rfl
  have f1 : DataW.trod enc Tryz.prog W base spare held n 3 [v1] = some y1 := by simpa [cells_int] using hf 1 _ rfl
  have f2 : DataW.trod enc Tryz.prog W base spare held n 9 [v2] = some y2 := by simpa [cells_string] using hf 2 _ rfl
  have f3 : DataW.trod enc Tryz.prog W base spare held n 28 [v3] = some y3 := by simpa [cells_list] using hf 3 _ rfl
  have f4 : DataW.trod enc Tryz.prog W base spare held n 44 [v4] = some y4 := by simpa [cells_doc] using hf 4 _ rfl
  obtain ⟨k, e0, rfl, _⟩ := DataW.trod_int Tryz.underlying3 f0
  obtain ⟨m, e1, rfl, _⟩ := DataW.trod_int Tryz.underlying3 f1
  obtain ⟨t, e2, rfl, _⟩ := DataW.trod_string Tryz.underlying9 f2
  simp only [List.cons.injEq, and_true] at e0 e1 e2
  subst e0 e1 e2
  have hw' : Light 9 (DataW.lit (H := H) (.string t.data.toList)) ∧ Light 28 y3.1 ∧ Light 44 y4.1 := by
    simp only [Light, DataW.weights, Tryz.underlying46, List.map, DataW.weightsEach, List.mem_append] at hw
    refine ⟨fun z hz => hw z ?_, fun z hz => hw z ?_, fun z hz => hw z ?_⟩
    · simp only [DataW.weights] at hz
      exact .inr (.inr (.inl hz))
    · exact .inr (.inr (.inr (.inl hz)))
    · exact .inr (.inr (.inr (.inr (.inl hz))))
  obtain ⟨w2, w3, w4⟩ := hw'
  have htz : t.size ≤ reach := Nat.le_trans (w2 t.size (by simp [DataW.weights])) le_reach
  have ih' : ∀ n', n' < n + 1 → ReadsV H enc W base spare held n' := fun n' hn cs y h1 h2 => by
    obtain ⟨c, x, e, r, _⟩ := ih n' (by omega) cs y h1 h2
    exact ⟨c, x, e, r⟩
  obtain ⟨LA, ln, lc, l, rfl, hl1, hl2, hl3, hl4⟩ := read_list n (fun n' hn => ih' n' (by omega)) f3 w3
  obtain ⟨DA, dn, dc, d, rfl, hd1, hd2, hd3, hd4⟩ := read_doc n (fun n' hn => ih' n' (by omega)) f4 w4
  refine ⟨⟨k, m, t, LA, ln, lc, DA, dn, dc⟩, .mk k m t l d, rfl, RVs.shut ⟨rfl, rfl, rfl, htz, hl1, hl2, hl3, fun hp => ?_, hd1, hd2, Nat.le_trans hd3 le_reach, fun hp => ?_⟩, hd3⟩
  · obtain ⟨b, off, e, h⟩ := hl4 hp
    exact ⟨b, off, e, Ft.top, h⟩
  · obtain ⟨b, off, e, h⟩ := hd4 hp
    exact ⟨b, off, e, Ft.top, h⟩

theorem read_value (fuel : Nat) (cs : List Value) (y : DataW H × List MemPlace) (h : DataW.trod enc Tryz.prog W base spare held fuel 46 cs = some y) (hl : Light 46 y.1) : ∃ c x, cs = c.list ∧ RW W c x := by
  obtain ⟨c, x, e, r, _⟩ := read_value_d fuel cs y h hl
  exact ⟨c, x, e, r⟩

end
end Go.Proofs.YtlmmgjgkmbmgpaaGreatDoor


/- The contract of interval.copyValue. -/
namespace Go.Proofs.YtlmmgjgkmbmgpaaGreatDoor
open Go.RowKit

/-- a copy in new memory -/
def CopyOk (w : World) (x : Val) (e : Ending) (w' : World) : Prop := ∃ c : VC, e = .returned c.val ∧ RV (fun b => w.heap.size ≤ b) w' c x ∧ Below w.heap.size w w'

end Go.Proofs.YtlmmgjgkmbmgpaaGreatDoor


/- The contract of slices.Clone at chunks, orders and texts. Printed by gen_chclone.py. -/
namespace Go.Proofs.YtlmmgjgkmbmgpaaGreatDoor
open Go.RowKit

set_option maxHeartbeats 1000000 in
theorem cloneC_any (xs : List Ch) (A : Option Addr) (n c : Nat) (w : World) (h : SR 5 recC w A n c xs) (hn : n * 56 ≤ reach) :
    Calls Tryz.prog 170 #[.slice A n c] w fun e w' => ∃ v, e = .returned v ∧ w'.ownsRow w.heap.size 80 5 v n (flat recC xs) ∧ Below w.heap.size w w' := by
  obtain ⟨j0, hj0, hy0, hy1, hy2⟩ := info_parts info_chunk
  have HL := Lib.hid h.ln
  unfold reach at hn
  cases A with
  | none =>
    have h0 : n = 0 := by
      rcases Nat.eq_zero_or_pos n with h0 | h0
      · exact h0
      · obtain ⟨b, off, e, _⟩ := h.el h0; cases e
    subst h0
    have HX : Hid (xs = []) := List.eq_nil_of_length_eq_zero HL.out.symm
    clear h
    have kn := fun (w : World) => Lib.run_eql_slice_nil (P := Tryz.prog) w 25 80 none 0 c 0 0 Tryz.underlying25
    go_enter Tryz.func170, Tryz.ntmps170
    go_wp2_with fail
    go_ret
    exact ⟨_, rfl, by rw [HX.out]; exact own_nil _ _ _ _, Below.refl _ _⟩
  | some ad =>
    have HR := Lib.hid (h.reads recC_length (by omega))
    have hO : (w.alloc (Obj.cells #[] 80)).ownsRow w.heap.size 80 5 (.slice (some ⟨w.heap.size, 0, none⟩) 0 0) 0 [] :=
      ⟨rfl, .inr ⟨w.heap.size, 0, #[], rfl, Nat.le_refl _, Blk.new_at rfl, Nat.le_refl _, Nat.zero_le _, rfl, rfl⟩⟩
    have HO := Lib.hid hO
    have H1 := Lib.hid (flat_one recC_one xs)
    clear h hO
    have kn := fun (w : World) => Lib.run_eql_slice_nil (P := Tryz.prog) w 25 80 (some ad) n c 0 0 Tryz.underlying25
    go_enter Tryz.func170, Tryz.ntmps170
    go_wp2_with (at_builtin; refine wpList_append_any _ rfl _ _ 25 rfl w.heap.size 80 j0 (aggC Ch.zero) 5 56 Tryz.underlying25 hj0 hy0 hy1 hy2 rfl (by decide) (.slice (some ⟨w.heap.size, 0, none⟩) 0 0) 0 [] rfl HO.out w.heap.size (some ad) n c (flat recC xs) rfl (HR.out.alloc (Nat.le_refl _) _) H1.out (by unfold maxLen; omega) (by omega) (by simp) ?_)
    intro v' w2 hown hg _
    go_wp2_with fail
    go_ret
    refine ⟨v', rfl, by simpa using hown, ?_⟩
    exact ((Below.refl w.heap.size w).alloc (Nat.le_refl _) _).grown hg (by simp) (fun k hk => by simp [Value.ownBlock] at hk; omega)

set_option maxHeartbeats 1000000 in
theorem cloneO_any (xs : List OC) (A : Option Addr) (n c : Nat) (w : World) (h : SR 2 recO w A n c xs) (hn : n * 32 ≤ reach) :
    Calls Tryz.prog 168 #[.slice A n c] w fun e w' => ∃ v, e = .returned v ∧ w'.ownsRow w.heap.size 130 2 v n (flat recO xs) ∧ Below w.heap.size w w' := by
  obtain ⟨j0, hj0, hy0, hy1, hy2⟩ := info_parts info_order
  have HL := Lib.hid h.ln
  unfold reach at hn
  cases A with
  | none =>
    have h0 : n = 0 := by
      rcases Nat.eq_zero_or_pos n with h0 | h0
      · exact h0
      · obtain ⟨b, off, e, _⟩ := h.el h0; cases e
    subst h0
    have HX : Hid (xs = []) := List.eq_nil_of_length_eq_zero HL.out.symm
    clear h
    have kn := fun (w : World) => Lib.run_eql_slice_nil (P := Tryz.prog) w 22 130 none 0 c 0 0 Tryz.underlying22
    go_enter Tryz.func168, Tryz.ntmps168
    go_wp2_with fail
    go_ret
    exact ⟨_, rfl, by rw [HX.out]; exact own_nil _ _ _ _, Below.refl _ _⟩
  | some ad =>
    have HR := Lib.hid (h.reads recO_length (by omega))
    have hO : (w.alloc (Obj.cells #[] 130)).ownsRow w.heap.size 130 2 (.slice (some ⟨w.heap.size, 0, none⟩) 0 0) 0 [] :=
      ⟨rfl, .inr ⟨w.heap.size, 0, #[], rfl, Nat.le_refl _, Blk.new_at rfl, Nat.le_refl _, Nat.zero_le _, rfl, rfl⟩⟩
    have HO := Lib.hid hO
    have H1 := Lib.hid (flat_one recO_one xs)
    clear h hO
    have kn := fun (w : World) => Lib.run_eql_slice_nil (P := Tryz.prog) w 22 130 (some ad) n c 0 0 Tryz.underlying22
    go_enter Tryz.func168, Tryz.ntmps168
    go_wp2_with (at_builtin; refine wpList_append_any _ rfl _ _ 22 rfl w.heap.size 130 j0 (aggO OC.zero) 2 32 Tryz.underlying22 hj0 hy0 hy1 hy2 rfl (by decide) (.slice (some ⟨w.heap.size, 0, none⟩) 0 0) 0 [] rfl HO.out w.heap.size (some ad) n c (flat recO xs) rfl (HR.out.alloc (Nat.le_refl _) _) H1.out (by unfold maxLen; omega) (by omega) (by simp) ?_)
    intro v' w2 hown hg _
    go_wp2_with fail
    go_ret
    refine ⟨v', rfl, by simpa using hown, ?_⟩
    exact ((Below.refl w.heap.size w).alloc (Nat.le_refl _) _).grown hg (by simp) (fun k hk => by simp [Value.ownBlock] at hk; omega)

set_option maxHeartbeats 1000000 in
theorem cloneT_any (xs : List ByteArray) (A : Option Addr) (n c : Nat) (w : World) (h : SR 1 recT w A n c xs) (hn : n * 16 ≤ reach) :
    Calls Tryz.prog 169 #[.slice A n c] w fun e w' => ∃ v, e = .returned v ∧ w'.ownsRow w.heap.size 9 1 v n (flat recT xs) ∧ Below w.heap.size w w' := by
  obtain ⟨j0, hj0, hy0, hy1, hy2⟩ := info_parts info_string
  have HL := Lib.hid h.ln
  unfold reach at hn
  cases A with
  | none =>
    have h0 : n = 0 := by
      rcases Nat.eq_zero_or_pos n with h0 | h0
      · exact h0
      · obtain ⟨b, off, e, _⟩ := h.el h0; cases e
    subst h0
    have HX : Hid (xs = []) := List.eq_nil_of_length_eq_zero HL.out.symm
    clear h
    have kn := fun (w : World) => Lib.run_eql_slice_nil (P := Tryz.prog) w 48 9 none 0 c 0 0 Tryz.underlying48
    go_enter Tryz.func169, Tryz.ntmps169
    go_wp2_with fail
    go_ret
    exact ⟨_, rfl, by rw [HX.out]; exact own_nil _ _ _ _, Below.refl _ _⟩
  | some ad =>
    have HR := Lib.hid (h.reads recT_length (by omega))
    have hO : (w.alloc (Obj.cells #[] 9)).ownsRow w.heap.size 9 1 (.slice (some ⟨w.heap.size, 0, none⟩) 0 0) 0 [] :=
      ⟨rfl, .inr ⟨w.heap.size, 0, #[], rfl, Nat.le_refl _, Blk.new_at rfl, Nat.le_refl _, Nat.zero_le _, rfl, rfl⟩⟩
    have HO := Lib.hid hO
    have H1 := Lib.hid (flat_one recT_one xs)
    clear h hO
    have kn := fun (w : World) => Lib.run_eql_slice_nil (P := Tryz.prog) w 48 9 (some ad) n c 0 0 Tryz.underlying48
    go_enter Tryz.func169, Tryz.ntmps169
    go_wp2_with (at_builtin; refine wpList_append_any _ rfl _ _ 48 rfl w.heap.size 9 j0 (.string ByteArray.empty) 1 16 Tryz.underlying48 hj0 hy0 hy1 hy2 rfl (by decide) (.slice (some ⟨w.heap.size, 0, none⟩) 0 0) 0 [] rfl HO.out w.heap.size (some ad) n c (flat recT xs) rfl (HR.out.alloc (Nat.le_refl _) _) H1.out (by unfold maxLen; omega) (by omega) (by simp) ?_)
    intro v' w2 hown hg _
    go_wp2_with fail
    go_ret
    refine ⟨v', rfl, by simpa using hown, ?_⟩
    exact ((Below.refl w.heap.size w).alloc (Nat.le_refl _) _).grown hg (by simp) (fun k hk => by simp [Value.ownBlock] at hk; omega)

end Go.Proofs.YtlmmgjgkmbmgpaaGreatDoor


/- Parts of rows; stores of many cells into a block. -/
namespace Go.Proofs.YtlmmgjgkmbmgpaaGreatDoor
open Go.RowKit

theorem flat_take {α : Type} {rec : α → List Value} {s : Nat} (hs : ∀ a, (rec a).length = s) : ∀ (xs : List α) (k : Nat), (flat rec xs).take (k * s) = flat rec (xs.take k) := by
  intro xs
  induction xs with
  | nil => intro k; simp [flat]
  | cons a l ih =>
    intro k
    cases k with
    | zero => simp [flat]
    | succ k =>
      have e : ∀ (y : α) (t : List α), flat rec (y :: t) = rec y ++ flat rec t := fun _ _ => rfl
      rw [List.take_succ_cons, e, e, ← ih k, show (k + 1) * s = (rec a).length + k * s by rw [hs, Nat.add_mul]; omega, List.take_length_add_append]
theorem flat_drop {α : Type} {rec : α → List Value} {s : Nat} (hs : ∀ a, (rec a).length = s) : ∀ (xs : List α) (k : Nat), (flat rec xs).drop (k * s) = flat rec (xs.drop k) := by
  intro xs
  induction xs with
  | nil => intro k; simp [flat]
  | cons a l ih =>
    intro k
    cases k with
    | zero => simp [flat]
    | succ k =>
      have e : ∀ (y : α) (t : List α), flat rec (y :: t) = rec y ++ flat rec t := fun _ _ => rfl
      rw [List.drop_succ_cons, e, ← ih k, show (k + 1) * s = (rec a).length + k * s by rw [hs, Nat.add_mul]; omega, List.drop_length_add_append]
theorem Reads.take {w : World} {B size n : Nat} {A : Option Addr} {xs : List Value} (h : Reads w B size A n xs) {k : Nat} (hk : k ≤ n) : Reads w B size A k (xs.take (k * size)) := by
  refine ⟨by rw [List.length_take, h.1]; exact Nat.min_eq_left (Nat.mul_le_mul_right _ hk), fun hn => ?_⟩
  obtain ⟨ad, rfl, hb, hc⟩ := h.2 (by omega)
  refine ⟨ad, rfl, hb, fun j u hu => hc j u ?_⟩
  rw [List.getElem?_take] at hu
  split at hu
  · exact hu
  · cases hu
theorem Blk.setCells {g : Nat} {t : TypeId} : ∀ (vs : List Value) {l : List Value} (o : Nat) {w : World}, Blk w g t l.toArray → Blk (w.setCells g o vs) g t (setList l o vs).toArray
  | [], _, _, _, h => h
  | v :: r, l, o, w, h => by
    have h1 := h.set_ o v
    rw [show l.toArray.setIfInBounds o v = (l.set o v).toArray by simp] at h1
    exact Blk.setCells r (o + 1) h1
theorem But.setCells {g : Nat} {w : World} : ∀ (vs : List Value) (o : Nat) {w1 : World}, But g w w1 → But g w (w1.setCells g o vs)
  | [], _, _, h => h
  | v :: r, o, _, h => But.setCells r (o + 1) (h.set (p := ⟨g, o, none⟩) rfl v)
end Go.Proofs.YtlmmgjgkmbmgpaaGreatDoor


/- The contracts of slices.IndexFunc at chunks, of the functions that are handed to it, and of begins and Find. · The contracts of chunks.copied and chunks.changed. · The contract of chunks.changed. · The contracts of slices.Insert and slices.Delete at chunks. · The contract of slices.Delete at chunks: one chunk is taken out in place. · Routes in a variable, whose chunks lie in a row of the call's own. · The contract of chunks.Split. -/
namespace Go.Proofs.YtlmmgjgkmbmgpaaGreatDoor
open Go.RowKit

set_option maxRecDepth 100000 in
set_option maxHeartbeats 1000000 in
theorem indexC_any (f : FuncId) (m : Nat) (p : Ch → Bool) (l : List Ch) (A : Option Addr) (n c : Nat) (w : World) (h : CS w A n c l)
    (hent : ∀ args w, (callFunc f args).run Tryz.prog w = .ok (.enter f args) w)
    (hs : ∀ (x : Ch) (wr : World), Below w.heap.size w wr → Calls Tryz.prog f #[aggC x, .pointer (some ⟨m, 0, none⟩)] wr fun e w' => e = .returned (.bool (p x)) ∧ Below wr.heap.size wr w') :
    Calls Tryz.prog 39 #[.slice A n c, .func (.func f) #[] #[.pointer (some ⟨m, 0, none⟩)]] w fun e w' => e = .returned (.int .i64 (idxI p l)) ∧ Below w.heap.size w w' := by
  have hz : n ≤ 140737488355328 := by have := h.sz; unfold reach at this; omega
  have H := Lib.hid h
  have HS := Lib.hid hs
  clear h hs
  go_enter Tryz.func39, Tryz.ntmps39
  go_wp2_with fail
  go_loopw [8] (fun v wr => ∃ i : Nat, i ≤ n ∧ v = .int .i64 i ∧ idxI p l = idxFrom p (l.drop i) i ∧ Below w.heap.size w wr) (fun v _ => n - (intOf v).toNat)
  case atStart => exact ⟨0, Nat.zero_le _, rfl, rfl, Below.refl _ _⟩
  case round =>
    obtain ⟨i, hi, rfl, ha, hbel⟩ := hrel
    have HA := Lib.hid ha
    have HB := Lib.hid hbel
    clear ha
    by_cases hlt : i < n
    · obtain ⟨b, off, x, hA, hb, hx, e0, e1, e2, e3, e4⟩ := H.out.sr.at5 hlt
      subst hA
      have HX := Lib.hid (idxFrom_at (p := p) hx)
      have g0 := (hbel.cell (p := ⟨b, off + i * 5, none⟩) hb).trans e0
      have g1 := (hbel.cell (p := ⟨b, off + i * 5 + 1, none⟩) hb).trans e1
      have g2 := (hbel.cell (p := ⟨b, off + i * 5 + 2, none⟩) hb).trans e2
      have g3 := (hbel.cell (p := ⟨b, off + i * 5 + 3, none⟩) hb).trans e3
      have g4 := (hbel.cell (p := ⟨b, off + i * 5 + 4, none⟩) hb).trans e4
      clear hx e0 e1 e2 e3 e4 hbel
      go_wp2_with fail
      refine (HS.out x _ HB.out).mono ?_
      rintro e w1 ⟨rfl, hb1⟩
      have HB1 := Lib.hid (HB.out.step' hb1)
      clear hb1 g0 g1 g2 g3 g4
      cases hq : p x
      · have HF : Hid (idxI p l = idxFrom p (l.drop (i + 1)) (i + 1)) := by rw [Hid, HA.out, HX.out, hq]; rfl
        go_wp2_with fail
        go_roundw
        case rel => exact ⟨i + 1, by omega, by go_num, HF.out, HB1.out⟩
        case measure => simp [intOf]; omega
      · have HF : Hid (idxI p l = (i : Int)) := by rw [Hid, HA.out, HX.out, hq]; rfl
        go_wp2_with fail
        go_ret
        exact ⟨by rw [HF.out]; rfl, HB1.out⟩
    · have HF : Hid (idxI p l = -1) := by rw [Hid, HA.out]; exact idxFrom_end (by have := H.out.ln; omega)
      clear hbel
      go_wp2_with fail
      go_ret
      exact ⟨by rw [HF.out]; rfl, HB.out⟩

theorem beg1_any (x : Ch) (m : Nat) (key : ByteArray) (w : World) (h : w.cell? ⟨m, 0, none⟩ = some (.string key)) :
    Calls Tryz.prog 129 #[aggC x, .pointer (some ⟨m, 0, none⟩)] w fun e w' => e = .returned (.bool (begB key x)) ∧ Below w.heap.size w w' := by
  have hm := World.block_lt_of_cell? w _ h
  go_enter Tryz.func129, Tryz.ntmps129
  go_wp2_with fail
  go_ret
  exact ⟨rfl, (Below.refl _ _).alloc (Nat.le_refl _) _⟩
theorem give1_any (x : Ch) (m : Nat) (s : Int) (w : World) (h : w.cell? ⟨m, 0, none⟩ = some (.int .i64 s)) :
    Calls Tryz.prog 89 #[aggC x, .pointer (some ⟨m, 0, none⟩)] w fun e w' => e = .returned (.bool (shB s x)) ∧ Below w.heap.size w w' := by
  have hm := World.block_lt_of_cell? w _ h
  go_enter Tryz.func89, Tryz.ntmps89
  go_wp2_with fail
  go_ret
  exact ⟨rfl, (Below.refl _ _).alloc (Nat.le_refl _) _⟩
set_option maxRecDepth 100000 in
theorem begins_any (R : Ro) (a : RA) (key : ByteArray) (w : World) (h : RR w a R) :
    Calls Tryz.prog 87 #[rval a R, .string key] w fun e w' => e = .returned (.int .i64 (idxI (begB key) R.cs)) ∧ Below w.heap.size w w' := by
  have HA2 := Lib.hid (((Below.refl w.heap.size w).alloc (Nat.le_refl _) (Obj.cells (rarr a R) 27)).alloc (by simp) (Obj.cells #[.string key] 9))
  have HB : Hid (Blk ((w.alloc (Obj.cells (rarr a R) 27)).alloc (Obj.cells #[.string key] 9)) (w.heap.size + 1) 9 #[.string key]) := Blk.new_at (by simp)
  have H := Lib.hid h
  clear h
  go_enter Tryz.func87, Tryz.ntmps87
  go_wp2_with fail
  refine (indexC_any _ _ (begB key) R.cs _ _ _ _ (H.out.cs.step HA2.out) (fun _ _ => rfl) fun x wr hb => beg1_any x _ key wr (((HB.out.step hb).cell 0))).mono ?_
  rintro e w1 ⟨rfl, hb1⟩
  go_wp2_with fail
  go_ret
  exact ⟨rfl, HA2.out.step' hb1⟩
end Go.Proofs.YtlmmgjgkmbmgpaaGreatDoor

namespace Go.Proofs.YtlmmgjgkmbmgpaaGreatDoor
open Go.RowKit

theorem flat_setj {α : Type} {rec : α → List Value} {s : Nat} (hs : ∀ a, (rec a).length = s) : ∀ {xs : List α} {i j : Nat} {a a' : α} {v : Value}, xs[i]? = some a → j < s → (rec a).set j v = rec a' → (flat rec xs).set (i * s + j) v = flat rec (xs.set i a') := by
  intro xs
  induction xs with
  | nil => intro i j a a' v h; simp at h
  | cons b l ih =>
    intro i j a a' v h1 hj h2
    have e : ∀ (y : α) (t : List α), flat rec (y :: t) = rec y ++ flat rec t := fun _ _ => rfl
    cases i with
    | zero =>
      simp at h1
      subst h1
      rw [Nat.zero_mul, Nat.zero_add, List.set_cons_zero, e, e, List.set_append_left _ _ (by rw [hs]; exact hj), h2]
    | succ i =>
      rw [List.set_cons_succ, e, e, List.set_append_right _ _ (by rw [hs, Nat.add_mul]; omega), hs, show (i + 1) * s + j - s = i * s + j by rw [Nat.add_mul]; omega, ih (by simpa using h1) hj h2]
/-- a store into a row of the call's own -/
theorem own_set {w : World} {base : Nat} {e : TypeId} {size n c g : Nat} {xs : List Value} (h : w.ownsRow base e size (.slice (some ⟨g, 0, none⟩) n c) n xs) (k : Nat) (u : Value) :
    (w.setCell ⟨g, k, none⟩ u).ownsRow base e size (.slice (some ⟨g, 0, none⟩) n c) n (xs.set k u) := by
  refine ⟨by rw [List.length_set]; exact h.1, ?_⟩
  rcases h.2 with ⟨h1, _⟩ | ⟨g', cap, cur, hv, hg, hh, hnc, hm, hsz, htk⟩
  · cases h1
  · injection hv with h1 h2 h3
    injection h1 with h1
    injection h1 with h1
    subst h1 h3
    have hb : Blk w g e cur := hh
    refine .inr ⟨g, c, cur.setIfInBounds k u, rfl, hg, hb.set_ k u, hnc, hm, by simpa using hsz, ?_⟩
    rw [Array.toList_setIfInBounds, List.take_set, htk]
theorem own_cell {w : World} {base : Nat} {e : TypeId} {size n c g : Nat} {xs : List Value} (h : w.ownsRow base e size (.slice (some ⟨g, 0, none⟩) n c) n xs) {k : Nat} {u : Value} (hk : xs[k]? = some u) : w.cell? ⟨g, k, none⟩ = some u ∧ w.frozen? ⟨g, k, none⟩ = false := by
  have := h.cells (g := g) rfl k u hk
  rw [addr_add, Nat.zero_add] at this
  refine ⟨this, ?_⟩
  rcases h.2 with ⟨h1, _⟩ | ⟨g', cap, cur, hv, hg, hh, _⟩
  · cases h1
  · injection hv with h1
    injection h1 with h1
    injection h1 with h1
    subst h1
    exact Blk.frozen (t := e) (cs := cur) hh k
theorem own_mono {w : World} {base base' : Nat} {e : TypeId} {size n : Nat} {v : Value} {xs : List Value} (h : w.ownsRow base e size v n xs) (hb : base' ≤ base) : w.ownsRow base' e size v n xs := by
  refine ⟨h.1, ?_⟩
  rcases h.2 with h2 | ⟨g, cap, cur, hv, hg, hr⟩
  · exact .inl h2
  · exact .inr ⟨g, cap, cur, hv, by omega, hr⟩
theorem own_far {w : World} {base : Nat} {e : TypeId} {size n : Nat} {v : Value} {xs : List Value} (h : w.ownsRow base e size v n xs) {p : Addr} (hp : v.ownBlock ≠ some p.block) (u : Value) : (w.setCell p u).ownsRow base e size v n xs :=
  own_keep h fun g hg => Below.heap_setCell w p u g (fun e => hp (by rw [← e]; exact hg))

/-- footprints -/
structure STF (F : Nat → Prop) (w : World) (A : Option Addr) (n c : Nat) (l : List ByteArray) : Prop where
  st : ST w A n c l
  blk : 0 < n → ∀ b off, A = some ⟨b, off, none⟩ → F b
theorem ST.keep {w w' : World} {A : Option Addr} {n c : Nat} {l : List ByteArray} (h : ST w A n c l) (hs : w.heap.size ≤ w'.heap.size) (hk : 0 < n → ∀ b off, A = some ⟨b, off, none⟩ → w'.heap[b]? = w.heap[b]?) : ST w' A n c l := by
  refine ⟨⟨h.sr.ln, h.sr.lc, fun hn => ?_⟩, h.sz, h.el⟩
  obtain ⟨b, off, h1, h2, h3⟩ := h.sr.el hn
  exact ⟨b, off, h1, by omega, fun i a hi j v hj => (World.cell?_of_block (w := w) (a := ⟨b, off + i * 1 + j, none⟩) (hk hn b off h1)).trans (h3 i a hi j v hj)⟩
theorem STF.keep {F G : Nat → Prop} {w w' : World} {A : Option Addr} {n c : Nat} {l : List ByteArray} (h : STF F w A n c l) (hs : w.heap.size ≤ w'.heap.size) (hk : ∀ b, F b → b < w.heap.size → G b ∧ w'.heap[b]? = w.heap[b]?) : STF G w' A n c l := by
  have hlt : 0 < n → ∀ b off, A = some ⟨b, off, none⟩ → b < w.heap.size := by
    intro hn b off e
    obtain ⟨b', off', h1, h2, _⟩ := h.st.sr.el hn
    rw [e] at h1
    cases h1
    exact h2
  exact ⟨h.st.keep hs fun hn b off e => (hk b (h.blk hn b off e) (hlt hn b off e)).2, fun hn b off e => (hk b (h.blk hn b off e) (hlt hn b off e)).1⟩
structure ORF (F : Nat → Prop) (w : World) (o : OC) (q : Od) : Prop where
  d : o.d = q.d
  st : STF F w o.A o.n o.c q.p
theorem ORF.keep {F G : Nat → Prop} {w w' : World} {o : OC} {q : Od} (h : ORF F w o q) (hs : w.heap.size ≤ w'.heap.size) (hk : ∀ b, F b → b < w.heap.size → G b ∧ w'.heap[b]? = w.heap[b]?) : ORF G w' o q := ⟨h.d, h.st.keep hs hk⟩
def KSF (F : Nat → Prop) (w : World) (A : Option Addr) (n c : Nat) (ks : List Od) : Prop :=
  ∃ os : List OC, SR 2 recO w A n c os ∧ n * 32 ≤ reach ∧ os.length = ks.length ∧ (0 < n → ∀ b off, A = some ⟨b, off, none⟩ → F b) ∧ ∀ (i : Nat) (o : OC) (q : Od), os[i]? = some o → ks[i]? = some q → ORF F w o q
theorem KSF.ks {F : Nat → Prop} {w : World} {A : Option Addr} {n c : Nat} {ks : List Od} (h : KSF F w A n c ks) : KS w A n c ks := by
  obtain ⟨os, h1, h2, h3, h4, h5⟩ := h
  exact ⟨os, h1, h2, h3, fun i o q hi hq => ⟨(h5 i o q hi hq).d, (h5 i o q hi hq).st.st⟩⟩
theorem KSF.keep {F G : Nat → Prop} {w w' : World} {A : Option Addr} {n c : Nat} {ks : List Od} (h : KSF F w A n c ks) (hs : w.heap.size ≤ w'.heap.size) (hk : ∀ b, F b → b < w.heap.size → G b ∧ w'.heap[b]? = w.heap[b]?) : KSF G w' A n c ks := by
  obtain ⟨os, h1, h2, h3, h4, h5⟩ := h
  have hlt : 0 < n → ∀ b off, A = some ⟨b, off, none⟩ → b < w.heap.size := by
    intro hn b off e
    obtain ⟨b', off', k1, k2, _⟩ := h1.el hn
    rw [e] at k1
    cases k1
    exact k2
  refine ⟨os, ⟨h1.ln, h1.lc, fun hn => ?_⟩, h2, h3, fun hn b off e => (hk b (h4 hn b off e) (hlt hn b off e)).1, fun i o q hi hq => (h5 i o q hi hq).keep hs hk⟩
  obtain ⟨b, off, k1, k2, k3⟩ := h1.el hn
  exact ⟨b, off, k1, by omega, fun i a hi j v hj => (World.cell?_of_block (w := w) (a := ⟨b, off + i * 2 + j, none⟩) (hk b (h4 hn b off k1) k2).2).trans (k3 i a hi j v hj)⟩
theorem KS.toF {w : World} {A : Option Addr} {n c : Nat} {ks : List Od} (h : KS w A n c ks) : KSF (fun b => b < w.heap.size) w A n c ks := by
  obtain ⟨os, h⟩ := h
  refine ⟨os, h.sr, h.sz, h.ln, fun hn b off e => ?_, fun i o q hi hq => ⟨(h.el i o q hi hq).d, (h.el i o q hi hq).st, fun hn b off e => ?_⟩⟩
  · obtain ⟨b', off', k1, k2, _⟩ := h.sr.el hn
    rw [e] at k1
    cases k1
    exact k2
  · obtain ⟨b', off', k1, k2, _⟩ := (h.el i o q hi hq).st.sr.el hn
    rw [e] at k1
    cases k1
    exact k2

/-- six stores -/
abbrev setR (w : World) (g : Nat) (a : RA) (R : Ro) : World :=
  (((((w.setCell ⟨g, 0, none⟩ (.string R.sp)).setCell ⟨g, 1, none⟩ (.slice a.KA a.kn a.kc)).setCell ⟨g, 2, none⟩ (.bool R.ha)).setCell ⟨g, 3, none⟩ (.int .i64 R.ep)).setCell ⟨g, 4, none⟩ (.int .i64 R.ver)).setCell ⟨g, 5, none⟩ (.slice a.CA a.cn a.cc)
theorem Blk.putR {w : World} {g : Nat} {t : TypeId} {a b : RA} {R S : Ro} (h : Blk w g t (rarr b S)) : Blk (setR w g a R) g t (rarr a R) := (((((h.set_ 0 _).set_ 1 _).set_ 2 _).set_ 3 _).set_ 4 _).set_ 5 _
theorem heap_setR (w : World) (g : Nat) (a : RA) (R : Ro) (b : Nat) (h : b ≠ g) : (setR w g a R).heap[b]? = w.heap[b]? := by
  unfold setR
  iterate 6 rw [Below.heap_setCell _ _ _ b h]
theorem size_setR (w : World) (g : Nat) (a : RA) (R : Ro) : (setR w g a R).heap.size = w.heap.size := by simp [setR, World.setCell]
theorem below_setR {B : Nat} {a0 w : World} (h : Below B a0 w) {g : Nat} (hB : B ≤ g) (a : RA) (R : Ro) : Below B a0 (setR w g a R) :=
  (((((h.setCell hB _).setCell hB _).setCell hB _).setCell hB _).setCell hB _).setCell hB _

theorem load_ro (g : Nat) (a : RA) (R : Ro) (W : World) (q : Blk W g 27 (rarr a R)) : (loadVar 27 ⟨g, 0, none⟩).run Tryz.prog W = .ok (rval a R) W := by
  have q0 := q.cell 0
  have q1 := q.cell 1
  have q2 := q.cell 2
  have q3 := q.cell 3
  have q4 := q.cell 4
  have q5 := q.cell 5
  simp at q0 q1 q2 q3 q4 q5
  simp [go_sem, q0, q1, q2, q3, q4, q5]
theorem results_ro {fn : Func} {p : Tmp} (h : fn.results = #[.cell p 27]) (tmps : Array Value) (g1 : Nat) (h1 : tmps[p]?.getD undef = .pointer (some ⟨g1, 0, none⟩)) (W : World) (a : RA) (R : Ro) (q : Blk W g1 27 (rarr a R)) :
    (results fn tmps).run Tryz.prog W = .ok (rval a R) W := by
  have := load_ro g1 a R W q
  simp [results, h, h1, asAddr, this]
theorem results_ro_err {fn : Func} {p u : Tmp} (h : fn.results = #[.cell p 27, .tmp u]) (tmps : Array Value) (g1 : Nat) (h1 : tmps.getD p undef = .pointer (some ⟨g1, 0, none⟩)) (e : Value) (h2 : tmps.getD u undef = e)
    (W : World) (a : RA) (R : Ro) (q : Blk W g1 27 (rarr a R)) : (results fn tmps).run Tryz.prog W = .ok (.tuple #[rval a R, e]) W := by
  rw [results_cell_tmp h, h1, h2]
  simp [asAddr, load_ro g1 a R W q]

/-- the state of copied's loop -/
structure Cpy (B : Nat) (w : World) (a : RA) (R : Ro) (A : Option Addr) (c : Nat) (os : List OC) (wr : World) : Prop where
  b0 : Blk wr w.heap.size 27 (rarr ⟨A, a.kn, c, a.CA, a.cn, a.cc⟩ R)
  b1 : Blk wr (w.heap.size + 1) 27 (rarr RA.zero Ro.zero)
  own : wr.ownsRow (w.heap.size + 2) 130 2 (.slice A a.kn c) a.kn (flat recO os)
  ln : os.length = a.kn
  el : ∀ (i : Nat) (o : OC) (q : Od), os[i]? = some o → R.ks[i]? = some q → ORF (fun b => (b < B ∨ w.heap.size + 2 ≤ b) ∧ (Value.slice A a.kn c).ownBlock ≠ some b) wr o q
  bel : Below w.heap.size w wr
theorem Cpy.step {B : Nat} {w wr w1 : World} {a : RA} {R : Ro} {A : Option Addr} {c : Nat} {os : List OC} (h : Cpy B w a R A c os wr) (hb : Below wr.heap.size wr w1) : Cpy B w a R A c os w1 :=
  ⟨h.b0.step hb, h.b1.step hb, own_step h.own hb, h.ln, fun i o q hi hq => (h.el i o q hi hq).keep hb.size fun b hF hlt => ⟨hF, hb.block b hlt⟩, h.bel.step' hb⟩
theorem Cpy.next {B : Nat} {w wr : World} {a : RA} {R : Ro} {g c : Nat} {os : List OC} (h : Cpy B w a R (some ⟨g, 0, none⟩) c os wr) {i : Nat} {o : OC} {q : Od} (hi : os[i]? = some o) (hq : R.ks[i]? = some q) {A : Option Addr} {n k : Nat}
    (hst : STF (fun b => w.heap.size + 2 ≤ b ∧ b ≠ g) wr A n k q.p) : Cpy B w a R (some ⟨g, 0, none⟩) c (os.set i ⟨A, n, k, o.d⟩) (wr.setCell ⟨g, i * 2, none⟩ (.slice A n k)) := by
  have hg : w.heap.size + 2 ≤ g := own_ge h.own g rfl
  have hown := own_set h.own (i * 2) (.slice A n k)
  rw [show i * 2 = i * 2 + 0 by rfl, flat_setj recO_length hi (by omega) (a' := ⟨A, n, k, o.d⟩) rfl] at hown
  refine ⟨h.b0.far (by show w.heap.size ≠ g; omega) _, h.b1.far (by show w.heap.size + 1 ≠ g; omega) _, hown, by rw [List.length_set]; exact h.ln, fun j o' q' hj hq' => ?_, h.bel.setCell (by show w.heap.size ≤ g; omega) _⟩
  rw [List.getElem?_set] at hj
  split at hj
  · rename_i e
    subst e
    split at hj
    · injection hj with hj
      subst hj
      rw [hq] at hq'
      injection hq' with hq'
      subst hq'
      exact ⟨(h.el i o q hi hq).d, hst.keep (by simp [World.setCell]) fun b hF _ => ⟨⟨.inr hF.1, by simp [Value.ownBlock]; exact fun e => hF.2 e.symm⟩, Below.heap_setCell _ _ _ b hF.2⟩⟩
    · cases hj
  · exact (h.el j o' q' hj hq').keep (by simp [World.setCell]) fun b hF _ => ⟨hF, Below.heap_setCell _ _ _ b fun e => hF.2 (by simp [Value.ownBlock]; exact e.symm)⟩

/-- what a copy of routes is: the chunks lie in a row of its own -/
def CopOk (B : Nat) (w : World) (R : Ro) (e : Ending) (w' : World) : Prop :=
  ∃ a : RA, e = .returned (rval a R) ∧ KSF (fun b => (b < B ∨ w.heap.size ≤ b) ∧ (Value.slice a.CA a.cn a.cc).ownBlock ≠ some b) w' a.KA a.kn a.kc R.ks ∧ w'.ownsRow w.heap.size 80 5 (.slice a.CA a.cn a.cc) a.cn (flat recC R.cs) ∧ a.cn = R.cs.length ∧ a.cn * 56 ≤ reach ∧ Below w.heap.size w w'

set_option maxRecDepth 100000 in
set_option maxHeartbeats 2000000 in
theorem copied_any (B : Nat) (R : Ro) (a : RA) (w : World) (hB : B ≤ w.heap.size) (hk : KSF (fun b => b < B) w a.KA a.kn a.kc R.ks) (hc : CS w a.CA a.cn a.cc R.cs) : Calls Tryz.prog 130 #[rval a R] w (CopOk B w R) := by
  obtain ⟨KA, kn, kc, CA, cn, cc⟩ := a
  have hln := Lib.hid hk.ks.ln
  have HCS := Lib.hid hc
  obtain ⟨os, hkz, hkl, hkb, hke⟩ := hk
  obtain ⟨hkz, hsr⟩ : kn * 32 ≤ reach ∧ SR 2 recO w KA kn kc os := ⟨hkl, hkz⟩
  have hkn : kn ≤ 140737488355328 := by unfold reach at hkz; omega
  have HSR := Lib.hid hsr
  have HKZ := Lib.hid hkz
  have HKL := Lib.hid hkb
  have HKE := Lib.hid hke.2
  clear hc hkl hkb hke hsr hkz
  have B0 : Hid (Blk ((w.alloc (Obj.cells (rarr ⟨KA, kn, kc, CA, cn, cc⟩ R) 27)).alloc (Obj.cells (rarr RA.zero Ro.zero) 27)) w.heap.size 27 (rarr ⟨KA, kn, kc, CA, cn, cc⟩ R)) := (Blk.new_at rfl).alloc _
  have B1 : Hid (Blk ((w.alloc (Obj.cells (rarr ⟨KA, kn, kc, CA, cn, cc⟩ R) 27)).alloc (Obj.cells (rarr RA.zero Ro.zero) 27)) (w.heap.size + 1) 27 (rarr RA.zero Ro.zero)) := Blk.new_at (by simp)
  have BE : Hid (Below w.heap.size w ((w.alloc (Obj.cells (rarr ⟨KA, kn, kc, CA, cn, cc⟩ R) 27)).alloc (Obj.cells (rarr RA.zero Ro.zero) 27))) := ((Below.refl _ _).alloc (Nat.le_refl _) _).alloc (by simp) _
  go_enter Tryz.func130, Tryz.ntmps130
  go_upto_region 1 with fail
  change (Code.region 1 _ _).wp _ _ _ ((w.alloc (Obj.cells (rarr ⟨KA, kn, kc, CA, cn, cc⟩ R) 27)).alloc (Obj.cells (rarr RA.zero Ro.zero) 27))
  have hsz : ((w.alloc (Obj.cells (rarr ⟨KA, kn, kc, CA, cn, cc⟩ R) 27)).alloc (Obj.cells (rarr RA.zero Ro.zero) 27)).heap.size = w.heap.size + 2 := by simp
  generalize (w.alloc (Obj.cells (rarr ⟨KA, kn, kc, CA, cn, cc⟩ R) 27)).alloc (Obj.cells (rarr RA.zero Ro.zero) 27) = wa at *
  have HSZ := Lib.hid hsz
  clear hsz
  have q1 := B0.out.cell 1
  simp at q1
  go_wp2_with fail
  refine (cloneO_any os _ _ _ _ (HSR.out.step BE.out) HKZ.out).mono ?_
  rintro e w1 ⟨v, rfl, hown, hb1⟩
  obtain ⟨A1, c1, rfl, hle1⟩ := own_slice hown
  have g0 := B0.out.step hb1
  have g1 := B1.out.step hb1
  have z1 := g0.frozen 1
  have y1 := g0.cell 1
  simp at y1
  rw [HSZ.out] at hown
  have I0 : Hid (Cpy B w ⟨KA, kn, kc, CA, cn, cc⟩ R A1 c1 os (w1.setCell ⟨w.heap.size, 1, none⟩ (.slice A1 kn c1))) := by
    have hne : (Value.slice A1 kn c1).ownBlock ≠ some w.heap.size := own_ne hown (by omega)
    refine ⟨g0.set_ 1 _, g1.far (by show w.heap.size + 1 ≠ w.heap.size; omega) _, own_far hown hne _, by have := HSR.out.ln; exact this.symm, fun i o q hi hq => ?_, (BE.out.step' hb1).setCell (Nat.le_refl _) _⟩
    exact (HKE.out i o q hi hq).keep (by have := (BE.out.step' hb1).size; simpa [World.setCell] using this) fun b hF _ => ⟨⟨.inl hF, own_ne hown (by omega)⟩, by rw [Below.heap_setCell _ _ _ b (by show b ≠ w.heap.size; omega)]; exact (BE.out.step' hb1).block b (by omega)⟩
  clear q1 g0 g1 hown hb1 B0 B1
  go_upto_region 2 with fail
  clear z1 y1
  generalize w1.setCell ⟨w.heap.size, 1, none⟩ (.slice A1 kn c1) = w2 at *
  have q1 := I0.out.b0.cell 1
  simp at q1
  go_wp2_with fail
  clear q1
  go_loopw [14, 3] (fun v14 v3 wr => ∃ (i : Nat) (os' : List OC), i ≤ kn ∧ v14 = .int .i64 i ∧ Cpy B w ⟨KA, kn, kc, CA, cn, cc⟩ R A1 c1 os' wr) (fun v14 _ _ => kn - (intOf v14).toNat)
  case atStart => exact ⟨0, os, Nat.zero_le _, rfl, I0.out⟩
  case round =>
    obtain ⟨i, os', hi, rfl, I⟩ := hrel
    have J := Lib.hid I
    have hbn : w.heap.size < wr.heap.size := I.b0.lt
    by_cases hlt : i < kn
    · obtain ⟨o, ho⟩ : ∃ o, os'[i]? = some o := ⟨_, List.getElem?_eq_getElem (by rw [I.ln]; exact hlt)⟩
      obtain ⟨q, hq⟩ : ∃ q, R.ks[i]? = some q := ⟨_, List.getElem?_eq_getElem (by have := hln.out; omega)⟩
      obtain ⟨g, cap, hv, hgb, hgl⟩ := I.own.form (by show 0 < kn; omega)
      have hv : A1 = some ⟨g, 0, none⟩ := by injection hv
      subst hv
      have r0 := (own_cell I.own (flat_get recO_length ho (j := 0) rfl)).1
      simp only [Nat.add_zero] at r0
      have q1 := I.b0.cell 1
      simp at q1
      have HOR := Lib.hid (I.el i o q ho hq)
      have HO := Lib.hid ho
      have HQ := Lib.hid hq
      have HGB := Lib.hid hgb
      obtain ⟨oA, on, oc, od⟩ := o
      simp only at r0
      have hi0 : (0 : Int) ≤ (i : Int) := by omega
      have hi1 : (i : Int) < (kn : Int) := by omega
      clear ho hq hgb I
      go_upto_region 5 with fail
      go_region_law ((go_simp; go_at_call 169; refine (cloneT_any q.p _ _ _ _ (HOR.out.st.st.step ((Below.refl _ _).drewN 1)).sr HOR.out.st.st.sz).mono ?_; rintro e w3 ⟨v, rfl, hown, hb3⟩; replace hb3 : Below wr.heap.size wr w3 := hb3.undrewN; replace hown : w3.ownsRow wr.heap.size 9 1 v on (flat recT q.p) := hown; obtain ⟨A2, c2, hv2, hsr2⟩ := SR.of_own recT_length hown (by have := HOR.out.st.st.sr.ln; exact this.symm); have hge := own_ge hown; rw [hv2] at hge ⊢; have s0 := (hb3.cell (p := ⟨w.heap.size, 1, none⟩) J.out.b0.lt).trans q1; have s1 := (hb3.cell (p := ⟨g, i * 2, none⟩) hgl).trans r0; have LX := Lib.hid (J.out.step hb3); have z : w3.frozen? ⟨g, i * 2, none⟩ = false := (own_cell LX.out.own (flat_get recO_length HO.out (j := 0) rfl)).2; have HG := Lib.hid hge; have HR2 := Lib.hid hsr2; clear hb3 hown hv2 hge hsr2))
      all_goals
        clear s0 s1 z q1 r0
        go_wp2_with fail
        go_roundw
        case rel => exact ⟨i + 1, _, by omega, by go_num, LX.out.next HO.out HQ.out ⟨⟨HR2.out, HOR.out.st.st.sz, HOR.out.st.st.el⟩, fun hn b off e => by have := HG.out b (by rw [e]; rfl); have := J.out.b1.lt; exact ⟨by omega, by omega⟩⟩⟩
        case measure => simp [intOf]; omega
    · have hik : i = kn := by omega
      have q5 := I.b0.cell 5
      simp at q5
      go_upto_region 7 with fail
      go_wp2_with fail
      refine (cloneC_any R.cs _ _ _ _ (HCS.out.sr.step I.bel) HCS.out.sz).mono ?_
      rintro e w3 ⟨v, rfl, hown, hb3⟩
      obtain ⟨A3, c3, rfl, hle3⟩ := own_slice hown
      have LX := Lib.hid (I.step hb3)
      have z5 := LX.out.b0.frozen 5
      have y5 := LX.out.b0.cell 5
      simp at y5
      have hgel := own_ge hown
      have hbs := I.b1.lt
      have D0 : Hid (Blk (w3.setCell ⟨w.heap.size, 5, none⟩ (.slice A3 cn c3)) w.heap.size 27 (rarr ⟨A1, kn, c1, A3, cn, c3⟩ R)) := LX.out.b0.set_ 5 _
      have D1 : Hid (Blk (w3.setCell ⟨w.heap.size, 5, none⟩ (.slice A3 cn c3)) (w.heap.size + 1) 27 (rarr RA.zero Ro.zero)) := LX.out.b1.far (by show w.heap.size + 1 ≠ w.heap.size; omega) _
      have DO := Lib.hid (own_far hown (p := ⟨w.heap.size, 5, none⟩) (fun e => by have := hgel _ e; simp only at this; omega) (.slice A3 cn c3))
      have DB : Hid (Below w.heap.size w (w3.setCell ⟨w.heap.size, 5, none⟩ (.slice A3 cn c3))) := LX.out.bel.setCell (Nat.le_refl _) _
      have DK : Hid (KSF (fun b => (b < B ∨ w.heap.size + 2 ≤ b) ∧ (Value.slice A3 cn c3).ownBlock ≠ some b) (w3.setCell ⟨w.heap.size, 5, none⟩ (.slice A3 cn c3)) A1 kn c1 R.ks) := by
        have hK : KSF (fun b => b < B ∨ w.heap.size + 2 ≤ b) wr A1 kn c1 R.ks := by
          obtain ⟨A', c', hv, hsr⟩ := SR.of_own recO_length I.own I.ln
          injection hv with h1 h2 h3
          subst h1 h3
          refine ⟨os', hsr, HKZ.out, by rw [I.ln]; exact hln.out, fun hn b off e => ?_, fun i o q hi hq => (I.el i o q hi hq).keep (Nat.le_refl _) fun b hF _ => ⟨hF.1, rfl⟩⟩
          have := own_ge I.own b (by rw [e]; rfl)
          omega
        exact hK.keep (by have := hb3.size; simpa using this) fun b hF hlt => ⟨⟨hF, fun e => by have := hgel _ e; omega⟩, by rw [Below.heap_setCell _ _ _ b (by show b ≠ w.heap.size; omega)]; exact hb3.block b hlt⟩
      clear q5 hown hb3 hle3 I J hgel
      go_upto_region 8 with fail
      clear z5 y5
      generalize w3.setCell ⟨w.heap.size, 5, none⟩ (.slice A3 cn c3) = w4 at *
      have q0 := D0.out.cell 0
      have q1 := D0.out.cell 1
      have q2 := D0.out.cell 2
      have q3 := D0.out.cell 3
      have q4 := D0.out.cell 4
      have q5 := D0.out.cell 5
      have r0 := D1.out.cell 0
      have r1 := D1.out.cell 1
      have r2 := D1.out.cell 2
      have r3 := D1.out.cell 3
      have r4 := D1.out.cell 4
      have r5 := D1.out.cell 5
      have z := D1.out.frozen
      simp at q0 q1 q2 q3 q4 q5 r0 r1 r2 r3 r4 r5
      have E0 := Lib.hid (D1.out.putR (a := ⟨A1, kn, c1, A3, cn, c3⟩) (R := R))
      have E1 : Hid (KSF (fun b => (b < B ∨ w.heap.size ≤ b) ∧ (Value.slice A3 cn c3).ownBlock ≠ some b) (setR w4 (w.heap.size + 1) ⟨A1, kn, c1, A3, cn, c3⟩ R) A1 kn c1 R.ks) :=
        DK.out.keep (by rw [size_setR]; exact Nat.le_refl _) fun b hF _ => ⟨⟨by omega, hF.2⟩, heap_setR _ _ _ _ b (by omega)⟩
      have E2 : Hid ((setR w4 (w.heap.size + 1) ⟨A1, kn, c1, A3, cn, c3⟩ R).ownsRow w.heap.size 80 5 (.slice A3 cn c3) cn (flat recC R.cs)) :=
        own_mono (own_keep DO.out fun g hg => heap_setR _ _ _ _ g (by have := own_ge DO.out g hg; omega)) (by omega)
      have E3 : Hid (Below w.heap.size w (setR w4 (w.heap.size + 1) ⟨A1, kn, c1, A3, cn, c3⟩ R)) := below_setR DB.out (by omega) _ _
      clear DK DO DB D0 D1
      go_wp2_with fail
      clear q0 q1 q2 q3 q4 q5 r0 r1 r2 r3 r4 r5 z
      refine bodyPost_ret (results_ro rfl _ (w.heap.size + 1) rfl _ ⟨A1, kn, c1, A3, cn, c3⟩ R E0.out) rfl ?_
      exact ⟨⟨A1, kn, c1, A3, cn, c3⟩, rfl, E1.out, E2.out, HCS.out.ln, HCS.out.sz, E3.out⟩

end Go.Proofs.YtlmmgjgkmbmgpaaGreatDoor

namespace Go.Proofs.YtlmmgjgkmbmgpaaGreatDoor
open Go.RowKit

/-- routes that were copied, with the next version -/
def Ro.nx (R : Ro) : Ro := ⟨R.sp, R.ks, R.ha, R.ep, Go.Proofs.YtlmmgjgkmbmgpaaGreatDoor.nx R.ver, R.cs⟩
set_option maxRecDepth 100000 in
set_option maxHeartbeats 400000 in
theorem changed_any (B : Nat) (R : Ro) (a : RA) (w : World) (hB : B ≤ w.heap.size) (hk : KSF (fun b => b < B) w a.KA a.kn a.kc R.ks) (hc : CS w a.CA a.cn a.cc R.cs) : Calls Tryz.prog 88 #[rval a R] w (CopOk B w R.nx) := by
  obtain ⟨KA, kn, kc, CA, cn, cc⟩ := a
  have HK := Lib.hid hk
  have HC := Lib.hid hc
  clear hk hc
  have B0 : Hid (Blk ((w.alloc (Obj.cells (rarr ⟨KA, kn, kc, CA, cn, cc⟩ R) 27)).alloc (Obj.cells (rarr RA.zero Ro.zero) 27)) w.heap.size 27 (rarr ⟨KA, kn, kc, CA, cn, cc⟩ R)) := (Blk.new_at rfl).alloc _
  have B1 : Hid (Blk ((w.alloc (Obj.cells (rarr ⟨KA, kn, kc, CA, cn, cc⟩ R) 27)).alloc (Obj.cells (rarr RA.zero Ro.zero) 27)) (w.heap.size + 1) 27 (rarr RA.zero Ro.zero)) := Blk.new_at (by simp)
  have BE : Hid (Below w.heap.size w ((w.alloc (Obj.cells (rarr ⟨KA, kn, kc, CA, cn, cc⟩ R) 27)).alloc (Obj.cells (rarr RA.zero Ro.zero) 27))) := ((Below.refl _ _).alloc (Nat.le_refl _) _).alloc (by simp) _
  go_enter Tryz.func88, Tryz.ntmps88
  go_upto_region 1 with fail
  change (Code.region 1 _ _).wp _ _ _ ((w.alloc (Obj.cells (rarr ⟨KA, kn, kc, CA, cn, cc⟩ R) 27)).alloc (Obj.cells (rarr RA.zero Ro.zero) 27))
  have hsz : ((w.alloc (Obj.cells (rarr ⟨KA, kn, kc, CA, cn, cc⟩ R) 27)).alloc (Obj.cells (rarr RA.zero Ro.zero) 27)).heap.size = w.heap.size + 2 := by simp
  generalize (w.alloc (Obj.cells (rarr ⟨KA, kn, kc, CA, cn, cc⟩ R) 27)).alloc (Obj.cells (rarr RA.zero Ro.zero) 27) = wa at *
  have HSZ := Lib.hid hsz
  clear hsz
  have q0 := B0.out.cell 0
  have q1 := B0.out.cell 1
  have q2 := B0.out.cell 2
  have q3 := B0.out.cell 3
  have q4 := B0.out.cell 4
  have q5 := B0.out.cell 5
  simp at q0 q1 q2 q3 q4 q5
  go_wp2_with fail
  clear q0 q1 q2 q3 q4 q5
  refine (copied_any B R ⟨KA, kn, kc, CA, cn, cc⟩ wa (by have := HSZ.out; omega) (HK.out.keep (by have := HSZ.out; omega) fun b hF hlt => ⟨hF, BE.out.block b hlt⟩) (HC.out.step BE.out)).mono ?_
  rintro e w1 ⟨⟨KA', kn', kc', CA', cn', cc'⟩, rfl, hks, hown, hln, hcz, hb1⟩
  rw [HSZ.out] at hks hown hb1
  have HLN := Lib.hid hln
  have HCZ := Lib.hid hcz
  clear hln hcz
  have g0 := B0.out.below hb1 (by omega)
  have g1 := B1.out.below hb1 (by omega)
  have z := g0.frozen
  obtain ⟨y0, y1, y2, y3, y4, y5⟩ : w1.cell? ⟨w.heap.size, 0, none⟩ = some (.string R.sp) ∧ w1.cell? ⟨w.heap.size, 1, none⟩ = some (.slice KA kn kc) ∧ w1.cell? ⟨w.heap.size, 2, none⟩ = some (.bool R.ha) ∧ w1.cell? ⟨w.heap.size, 3, none⟩ = some (.int .i64 R.ep) ∧ w1.cell? ⟨w.heap.size, 4, none⟩ = some (.int .i64 R.ver) ∧ w1.cell? ⟨w.heap.size, 5, none⟩ = some (.slice CA cn cc) := by
    refine ⟨?_, ?_, ?_, ?_, ?_, ?_⟩ <;> rw [g0.cell] <;> rfl
  have hgel := own_ge hown
  have D0 : Hid (Blk ((setR w1 w.heap.size ⟨KA', kn', kc', CA', cn', cc'⟩ R).setCell ⟨w.heap.size, 4, none⟩ (.int .i64 (nx R.ver))) w.heap.size 27 (rarr ⟨KA', kn', kc', CA', cn', cc'⟩ R.nx)) := (g0.putR (a := ⟨KA', kn', kc', CA', cn', cc'⟩) (R := R)).set_ 4 _
  have hpt : ∀ b, b ≠ w.heap.size → ((setR w1 w.heap.size ⟨KA', kn', kc', CA', cn', cc'⟩ R).setCell ⟨w.heap.size, 4, none⟩ (.int .i64 (nx R.ver))).heap[b]? = w1.heap[b]? := fun b h => by
    rw [Below.heap_setCell _ _ _ b h]; exact heap_setR _ _ _ _ b h
  have hps : ((setR w1 w.heap.size ⟨KA', kn', kc', CA', cn', cc'⟩ R).setCell ⟨w.heap.size, 4, none⟩ (.int .i64 (nx R.ver))).heap.size = w1.heap.size := by simp
  have D1 : Hid (Blk ((setR w1 w.heap.size ⟨KA', kn', kc', CA', cn', cc'⟩ R).setCell ⟨w.heap.size, 4, none⟩ (.int .i64 (nx R.ver))) (w.heap.size + 1) 27 (rarr RA.zero Ro.zero)) := (hpt _ (by omega)).trans g1
  have DO := Lib.hid (own_keep hown fun g hg => hpt g (by have := hgel g hg; omega))
  have DB : Hid (Below w.heap.size w ((setR w1 w.heap.size ⟨KA', kn', kc', CA', cn', cc'⟩ R).setCell ⟨w.heap.size, 4, none⟩ (.int .i64 (nx R.ver)))) := (below_setR (BE.out.trans (hb1.mono (by omega))) (Nat.le_refl _) _ _).setCell (Nat.le_refl _) _
  have DK := Lib.hid (hks.keep (G := fun b => (b < B ∨ w.heap.size + 2 ≤ b) ∧ (Value.slice CA' cn' cc').ownBlock ≠ some b) (by rw [hps]; exact Nat.le_refl _) fun b hF _ => ⟨hF, hpt b (by have := hF.1; omega)⟩)
  clear g0 g1 hks hown hb1 hpt hps hgel HK HC B0 B1 BE
  go_upto_region 2 with fail
  go_upto_region 3 with fail
  clear y0 y1 y2 y3 y4 y5 z
  change (Code.region 3 _ _).wp _ _ _ ((setR w1 w.heap.size ⟨KA', kn', kc', CA', cn', cc'⟩ R).setCell ⟨w.heap.size, 4, none⟩ (.int .i64 (nx R.ver)))
  generalize (setR w1 w.heap.size ⟨KA', kn', kc', CA', cn', cc'⟩ R).setCell ⟨w.heap.size, 4, none⟩ (.int .i64 (nx R.ver)) = w4 at *
  have q0 := D0.out.cell 0
  have q1 := D0.out.cell 1
  have q2 := D0.out.cell 2
  have q3 := D0.out.cell 3
  have q4 := D0.out.cell 4
  have q5 := D0.out.cell 5
  have r0 := D1.out.cell 0
  have r1 := D1.out.cell 1
  have r2 := D1.out.cell 2
  have r3 := D1.out.cell 3
  have r4 := D1.out.cell 4
  have r5 := D1.out.cell 5
  have z := D1.out.frozen
  simp at q0 q1 q2 q3 q4 q5 r0 r1 r2 r3 r4 r5
  have E0 := Lib.hid (D1.out.putR (a := ⟨KA', kn', kc', CA', cn', cc'⟩) (R := R.nx))
  have E1 : Hid (KSF (fun b => (b < B ∨ w.heap.size ≤ b) ∧ (Value.slice CA' cn' cc').ownBlock ≠ some b) (setR w4 (w.heap.size + 1) ⟨KA', kn', kc', CA', cn', cc'⟩ R.nx) KA' kn' kc' R.ks) :=
    DK.out.keep (by rw [size_setR]; exact Nat.le_refl _) fun b hF _ => ⟨⟨by omega, hF.2⟩, heap_setR _ _ _ _ b (by omega)⟩
  have E2 : Hid ((setR w4 (w.heap.size + 1) ⟨KA', kn', kc', CA', cn', cc'⟩ R.nx).ownsRow w.heap.size 80 5 (.slice CA' cn' cc') cn' (flat recC R.cs)) :=
    own_mono (own_keep DO.out fun g hg => heap_setR _ _ _ _ g (by have := own_ge DO.out g hg; omega)) (by omega)
  have E3 : Hid (Below w.heap.size w (setR w4 (w.heap.size + 1) ⟨KA', kn', kc', CA', cn', cc'⟩ R.nx)) := below_setR DB.out (by omega) _ _
  clear DK DO DB D0 D1
  go_wp2_with fail
  clear q0 q1 q2 q3 q4 q5 r0 r1 r2 r3 r4 r5 z
  refine bodyPost_ret (results_ro rfl _ (w.heap.size + 1) rfl _ ⟨KA', kn', kc', CA', cn', cc'⟩ R.nx E0.out) rfl ?_
  exact ⟨⟨KA', kn', kc', CA', cn', cc'⟩, rfl, E1.out, E2.out, HLN.out, HCZ.out, E3.out⟩

end Go.Proofs.YtlmmgjgkmbmgpaaGreatDoor

namespace Go.Proofs.YtlmmgjgkmbmgpaaGreatDoor
open Go.RowKit

/-- a row of the call's own, with its spare cells -/
theorem own_blk {w : World} {base : Nat} {e : TypeId} {s n c g : Nat} {xs : List Value} (h : w.ownsRow base e s (.slice (some ⟨g, 0, none⟩) n c) n xs) :
    ∃ R : List Value, Blk w g e (xs ++ R).toArray ∧ (xs ++ R).length = c * s ∧ n ≤ c ∧ c ≤ maxLen ∧ base ≤ g := by
  rcases h.2 with ⟨h1, _⟩ | ⟨g', cap, cur, hv, hg, hh, hnc, hm, hsz, htk⟩
  · cases h1
  · injection hv with h1 h2 h3
    injection h1 with h1
    injection h1 with h1
    subst h1 h3
    refine ⟨cur.toList.drop (n * s), ?_, ?_, hnc, hm, hg⟩
    · rw [← htk, List.take_append_drop]
      exact hh
    · rw [← htk, List.take_append_drop]
      simpa using hsz
end Go.Proofs.YtlmmgjgkmbmgpaaGreatDoor

namespace Go.Proofs.YtlmmgjgkmbmgpaaGreatDoor
open Go.RowKit

end Go.Proofs.YtlmmgjgkmbmgpaaGreatDoor

namespace Go.Proofs.YtlmmgjgkmbmgpaaGreatDoor
open Go.RowKit

theorem KS.toB {w w' : World} {A : Option Addr} {n c : Nat} {ks : List Od} (h : KS w A n c ks) (hb : Below w.heap.size w w') : KSF (fun b => b < w.heap.size) w' A n c ks :=
  h.toF.keep hb.size fun b hF hlt => ⟨hF, hb.block b hlt⟩
theorem KSF.lt {F : Nat → Prop} {w : World} {A : Option Addr} {n c : Nat} {ks : List Od} (h : KSF F w A n c ks) : KSF (fun b => F b ∧ b < w.heap.size) w A n c ks :=
  h.keep (Nat.le_refl _) fun _ hF hlt => ⟨⟨hF, hlt⟩, rfl⟩

/-- routes in the variable that lies in block N; their chunks lie in a row of the call's own; blocks from hi on are others -/
structure Vr (B lo hi N : Nat) (w : World) (a : RA) (R : Ro) (cs : List Ch) (wr : World) : Prop where
  b0 : Blk wr N 27 (rarr a R)
  own : wr.ownsRow lo 80 5 (.slice a.CA a.cn a.cc) a.cn (flat recC cs)
  og : ∀ g, (Value.slice a.CA a.cn a.cc).ownBlock = some g → g < hi
  ks : KSF (fun b => ((b < B ∨ lo ≤ b) ∧ b < hi) ∧ (Value.slice a.CA a.cn a.cc).ownBlock ≠ some b) wr a.KA a.kn a.kc R.ks
  ln : a.cn = cs.length
  sz : a.cn * 56 ≤ reach
  bel : Below B w wr
  hn : B ≤ N ∧ N < lo ∧ lo ≤ hi ∧ hi ≤ wr.heap.size
section
variable {B lo hi N : Nat} {w wr w1 : World} {a : RA} {R : Ro} {cs : List Ch}
theorem Vr.step (h : Vr B lo hi N w a R cs wr) (hb : Below wr.heap.size wr w1) : Vr B lo hi N w a R cs w1 :=
  ⟨h.b0.step hb, own_step h.own hb, h.og, h.ks.keep hb.size fun b hF hlt => ⟨hF, hb.block b hlt⟩, h.ln, h.sz, h.bel.trans (hb.mono (by have := h.hn; omega)), ⟨h.hn.1, h.hn.2.1, h.hn.2.2.1, Nat.le_trans h.hn.2.2.2 hb.size⟩⟩
theorem Vr.of {a0 : RA} {R0 : Ro} (h0 : Blk w1 N 27 (rarr a0 R0)) (hN : B ≤ N) (hNl : N < lo)
    (hks : KSF (fun b => (b < B ∨ lo ≤ b) ∧ (Value.slice a.CA a.cn a.cc).ownBlock ≠ some b) w1 a.KA a.kn a.kc R.ks) (hown : w1.ownsRow lo 80 5 (.slice a.CA a.cn a.cc) a.cn (flat recC R.cs))
    (hln : a.cn = R.cs.length) (hsz : a.cn * 56 ≤ reach) (hlo : lo ≤ w1.heap.size) (hbel : Below B w w1) : Vr B lo w1.heap.size N w a R R.cs (setR w1 N a R) := by
  have hge := own_ge hown
  refine ⟨h0.putR, own_keep hown fun g hg => heap_setR _ _ _ _ g (by have := hge g hg; omega), fun g hg => own_lt hown hg, hks.lt.keep (by rw [size_setR]; exact Nat.le_refl _) fun b hF hlt => ⟨⟨⟨hF.1.1, hF.2⟩, hF.1.2⟩, heap_setR _ _ _ _ b (by have := hF.1.1; omega)⟩, hln, hsz, below_setR hbel hN _ _, ⟨hN, hNl, hlo, by rw [size_setR]; exact Nat.le_refl _⟩⟩
/-- a store into a chunk -/
theorem Vr.put {g : Nat} (h : Vr B lo hi N w a R cs wr) (hg : a.CA = some ⟨g, 0, none⟩) {i j : Nat} {c c' : Ch} {v : Value} (hi' : cs[i]? = some c) (hj : j < 5) (he : (recC c).set j v = recC c') : Vr B lo hi N w a R (cs.set i c') (wr.setCell ⟨g, i * 5 + j, none⟩ v) := by
  obtain ⟨KA, kn, kc, CA, cn, cc⟩ := a
  simp only at hg
  subst hg
  have hge := own_ge h.own g rfl
  have ho := own_set h.own (i * 5 + j) v
  rw [flat_setj recC_length hi' hj he] at ho
  refine ⟨h.b0.far (by show N ≠ g; have := h.hn; omega) _, ho, h.og, h.ks.keep (by simp [World.setCell]) fun b hF _ => ⟨hF, Below.heap_setCell _ _ _ b (by show b ≠ g; intro e; exact hF.2 (by rw [e]; rfl))⟩, by rw [List.length_set]; exact h.ln, h.sz, h.bel.setCell (by show B ≤ g; have := h.hn; omega) _, ?_⟩
  have := h.hn
  simpa using this
/-- a store into another block -/
theorem Vr.far (h : Vr B lo hi N w a R cs wr) {p : Addr} (hp : hi ≤ p.block ∨ (B ≤ p.block ∧ p.block < lo ∧ p.block ≠ N)) (v : Value) : Vr B lo hi N w a R cs (wr.setCell p v) := by
  have hn := h.hn
  refine ⟨h.b0.far (by omega) _, own_far h.own (fun e => by have := h.og _ e; have := own_ge h.own _ e; omega) _, h.og, h.ks.keep (by simp [World.setCell]) fun b hF _ => ⟨hF, Below.heap_setCell _ _ _ b (by have := hF.1; omega)⟩, h.ln, h.sz, h.bel.setCell (by omega) _, by simpa using hn⟩
theorem Vr.get (h : Vr B lo hi N w a R cs wr) {i : Nat} {c : Ch} (hi' : cs[i]? = some c) : ∃ g, a.CA = some ⟨g, 0, none⟩ ∧ lo ≤ g ∧ g < hi ∧ ∀ j v, (recC c)[j]? = some v → wr.cell? ⟨g, i * 5 + j, none⟩ = some v ∧ wr.frozen? ⟨g, i * 5 + j, none⟩ = false := by
  obtain ⟨KA, kn, kc, CA, cn, cc⟩ := a
  have hl : i < cs.length := (List.getElem?_eq_some_iff.1 hi').1
  have hln : cn = cs.length := h.ln
  obtain ⟨g, cap, hv, hge, _⟩ := h.own.form (by show 0 < cn; omega)
  have hv2 : CA = some ⟨g, 0, none⟩ := by injection hv
  subst hv2
  exact ⟨g, rfl, hge, h.og g rfl, fun j v hv => own_cell h.own (flat_get recC_length hi' hv)⟩
end

/-- what is left at the end of a change -/
theorem change_end {B lo g1 : Nat} {w wr : World} {a b : RA} {R S : Ro} (hB : B = w.heap.size) (h1 : Blk wr g1 27 (rarr b S)) (hg : B ≤ g1) (hgl : g1 < lo) (hsp : R.sp.size ≤ reach)
    (hks : KSF (fun b => b < B ∨ lo ≤ b) wr a.KA a.kn a.kc R.ks) (hown : wr.ownsRow lo 80 5 (.slice a.CA a.cn a.cc) a.cn (flat recC R.cs)) (hln : a.cn = R.cs.length) (hsz : a.cn * 56 ≤ reach) (hbel : Below B w wr) :
    RouOk (R, 0) w (.returned (.tuple #[rval a R, .int .i64 0])) (setR wr g1 a R) ∧ Blk (setR wr g1 a R) g1 27 (rarr a R) := by
  subst hB
  have ho := own_keep hown (w' := setR wr g1 a R) fun g hg => heap_setR _ _ _ _ g (by have := own_ge hown g hg; omega)
  obtain ⟨A', c', hv, hsr⟩ := SR.of_own recC_length ho hln.symm
  injection hv with e1 e2 e3
  subst e1 e3
  refine ⟨⟨a, rfl, ⟨hsp, (hks.keep (G := fun _ => True) (by rw [size_setR]; exact Nat.le_refl _) fun b hF _ => ⟨trivial, heap_setR _ _ _ _ b (by omega)⟩).ks, ⟨hsr, hsz⟩⟩, below_setR hbel hg _ _⟩, h1.putR⟩
theorem change_err {g1 : Nat} {w wr : World} {b : RA} {S : Ro} (n : Int) (h1 : Blk wr g1 27 (rarr b S)) (hg : w.heap.size ≤ g1) (hbel : Below w.heap.size w wr) :
    RouOk (Ro.zero, n) w (.returned (.tuple #[rval RA.zero Ro.zero, .int .i64 n])) (setR wr g1 RA.zero Ro.zero) ∧ Blk (setR wr g1 RA.zero Ro.zero) g1 27 (rarr RA.zero Ro.zero) :=
  ⟨⟨RA.zero, rfl, RR.zero, below_setR hbel hg _ _⟩, h1.putR⟩
theorem RouOk.eq {r s : Ro × Int} {w w' : World} {e : Ending} (h : r = s) (k : RouOk s w e w') : RouOk r w e w' := by rw [h]; exact k
theorem set_two {cs : List Ch} {i : Nat} {c d : Ch} : (cs.set i c).set i d = cs.set i d := by simp

end Go.Proofs.YtlmmgjgkmbmgpaaGreatDoor

namespace Go.Proofs.YtlmmgjgkmbmgpaaGreatDoor
open Go.RowKit

theorem blk_ro {w : World} {g : Nat} {t : TypeId} {a : RA} {R : Ro} (h : Blk w g t (rarr a R)) : w.cell? ⟨g, 0, none⟩ = some (.string R.sp) ∧ w.cell? ⟨g, 1, none⟩ = some (.slice a.KA a.kn a.kc) ∧ w.cell? ⟨g, 2, none⟩ = some (.bool R.ha) ∧ w.cell? ⟨g, 3, none⟩ = some (.int .i64 R.ep) ∧ w.cell? ⟨g, 4, none⟩ = some (.int .i64 R.ver) ∧ w.cell? ⟨g, 5, none⟩ = some (.slice a.CA a.cn a.cc) ∧ ∀ i, w.frozen? ⟨g, i, none⟩ = false := by
  refine ⟨?_, ?_, ?_, ?_, ?_, ?_, h.frozen⟩ <;> rw [h.cell] <;> rfl

end Go.Proofs.YtlmmgjgkmbmgpaaGreatDoor


