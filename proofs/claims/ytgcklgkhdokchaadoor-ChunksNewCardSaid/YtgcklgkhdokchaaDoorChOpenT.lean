/- A list of texts that came in, opened. -/
import Derived.Test.YtgcklgkhdokchaaDoorValOpen
import Derived.Test.YtgcklgkhdokchaaDoorChRep
namespace Go.Proofs.YtgcklgkhdokchaaDoor
set_option maxRecDepth 100000
open Go.ChangeShapes Go.WideShapes Go.ChangeAt Go.RowKit Go.Joins Go.Deep

theorem bytes_string : Tryd.prog.bytesOf 9 = 16 := by kernel_rfl
section
variable {H : Type} {enc : TypeId × Value → H} {W : World} {base : Nat} {spare : Nat → Bool} {held : Bool}
theorem read_texts (n : Nat) {v : Value} {y : DataW H × List MemPlace} (h : DataW.trod enc Tryd.prog W base spare held n 36 [v] = some y) (hw : Light 36 y.1) :
    ∃ (A : Option Addr) (n c : Nat) (xs : List ByteArray), v = .slice A n c ∧ ST W A n c xs := by
  rcases DataW.trod_slice Tryd.underlying36 h with ⟨hcs, _⟩ | ⟨a, len, cap, elems, rest, n', rfl, hcs, rfl, _, hlc, hcm, hel, hat, _, _⟩
  · simp at hcs
    exact ⟨none, 0, 0, [], hcs, ⟨SR.nil, by show 0 * 16 ≤ reach; decide, fun s hs => by simp at hs⟩⟩
  · simp at hcs
    subst hcs
    simp only [Light, DataW.weights, Tryd.underlying36, List.mem_cons, List.mem_append, bytes_string] at hw
    have hsz : len * 16 ≤ reach := by
      have := hw _ (.inl rfl)
      simp only [List.length_map, hel] at this
      have h2 : len * 16 ≤ (len + rest.length) * 16 := Nat.mul_le_mul_right _ (by omega)
      have := le_reach
      omega
    have wl := light_all (l := elems.map (·.1)) (fun z hz => hw z (.inr (.inl hz)))
    rcases Nat.eq_zero_or_pos len with h0 | hp
    · subst h0
      exact ⟨some a, 0, cap, [], rfl, ⟨SR.nil, by show 0 * 16 ≤ reach; decide, fun s hs => by simp at hs⟩⟩
    have step : ∀ i, i < len → ∃ s : ByteArray, W.cells? base (a.add (i * 1)) 1 = some [.string s] ∧ s.size ≤ reach := by
      intro i hi
      have h1 := hat i hi
      rw [cells_string, List.getElem?_eq_getElem (by omega)] at h1
      obtain ⟨cs', hcs', ht'⟩ := Option.bind_eq_some_iff.1 h1
      have hwi := wl _ (List.mem_map_of_mem (List.getElem_mem (l := elems) (n := i) (by omega)))
      generalize elems[i] = q at *
      obtain ⟨s, e0, rfl, _⟩ := DataW.trod_string Tryd.underlying9 ht'
      subst e0
      refine ⟨s, hcs', Nat.le_trans (hwi s.size ?_) le_reach⟩
      simp [DataW.weights]
    obtain ⟨s0, h0, _⟩ := step 0 hp
    obtain ⟨b, off, ha, _⟩ := cells_at h0 (by omega)
    have ha' : a = ⟨b, off, none⟩ := by simpa [Addr.add] using ha
    subst ha'
    obtain ⟨f, hf⟩ := choose_fn (p := fun i (s : ByteArray) => W.cell? ⟨b, off + i, none⟩ = some (.string s) ∧ s.size ≤ reach) ByteArray.empty len (fun i hi => by
      obtain ⟨s, hcs', hs⟩ := step i hi
      rw [addr_add] at hcs'
      obtain ⟨b', off', ha', hc⟩ := cells_at hcs' (by omega)
      injection ha' with e1 e2
      subst e1 e2
      have := hc 0 (by omega)
      rw [Nat.mul_one] at this
      exact ⟨s, this, hs⟩)
    refine ⟨_, len, cap, (List.range len).map f, rfl, ⟨⟨by simp, hlc, fun _ => ⟨b, off, rfl, World.block_lt_of_cell? W _ (hf 0 hp).1, fun i x hi j u hj => ?_⟩⟩, hsz, fun s hs => ?_⟩⟩
    · have hlt : i < len := by have := (List.getElem?_eq_some_iff.1 hi).1; simpa using this
      rw [List.getElem?_map, List.getElem?_range hlt] at hi
      simp only [Option.map_some, Option.some.injEq] at hi
      subst hi
      have hj0 : j = 0 := by have := (List.getElem?_eq_some_iff.1 hj).1; simpa [recT] using this
      subst hj0
      simp [recT] at hj
      subst hj
      rw [Nat.mul_one, Nat.add_zero]
      exact (hf i hlt).1
    · obtain ⟨i, hi, rfl⟩ := List.mem_map.1 hs
      exact (hf i (List.mem_range.1 hi)).2
theorem open_texts {r : Reach} {b0 : Nat} {v : Value} {d : DataW H} {p : List MemPlace} (hv : Value.okWide Tryd.prog W r b0 36 v) (h : DataW.Trod enc Tryd.prog W base spare held 36 v d p) (hw : Light 36 d) :
    ∃ (A : Option Addr) (n c : Nat) (xs : List ByteArray), v = .slice A n c ∧ ST W A n c xs := by
  obtain ⟨a, len, cap, rfl⟩ := okWide_slice Tryd.underlying36 hv
  obtain ⟨fuel, hf⟩ := h
  exact read_texts fuel hf hw
end
end Go.Proofs.YtgcklgkhdokchaaDoor
