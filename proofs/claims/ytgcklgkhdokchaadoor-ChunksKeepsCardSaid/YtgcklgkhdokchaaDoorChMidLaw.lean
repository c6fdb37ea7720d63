/- The middle key of the program is that of the reference. -/
import Derived.Test.YtgcklgkhdokchaaDoorChRMiddle
import Derived.Sort.Walk0
namespace Go.Proofs.YtgcklgkhdokchaaDoor
open Go.RowKit

abbrev ltB (x y : BK) : Prop := Op.bytesLess x y = true
theorem bl_ne_lt {x y : BK} (h : Op.bytesLess y x = false) (hn : x ≠ y) : ltB x y := by
  rcases bl_tri x y with h1 | h1 | h1
  · exact h1
  · exact absurd h1 hn
  · rw [h] at h1; cases h1
theorem strict_eq : ∀ {l m : List BK}, l.Pairwise ltB → m.Pairwise ltB → (∀ x, x ∈ l ↔ x ∈ m) → l = m
  | [], [], _, _, _ => rfl
  | [], b :: s, _, _, h => by have := (h b).2 (by simp); cases this
  | a :: r, [], _, _, h => by have := (h a).1 (by simp); cases this
  | a :: r, b :: s, hl, hm, h => by
    rw [List.pairwise_cons] at hl hm
    have hab : a = b := by
      rcases List.mem_cons.1 ((h a).1 (by simp)) with e | h1
      · exact e
      · rcases List.mem_cons.1 ((h b).2 (by simp)) with e | h2
        · exact e.symm
        · have := bl_tr (hl.1 b h2) (hm.1 a h1)
          rw [bl_irr] at this
          cases this
    subst hab
    rw [strict_eq hl.2 hm.2 fun x => ?_]
    constructor
    · intro hx
      rcases List.mem_cons.1 ((h x).1 (List.mem_cons_of_mem _ hx)) with e | h1
      · subst e
        have := hl.1 x hx
        rw [ltB, bl_irr] at this
        cases this
      · exact h1
    · intro hx
      rcases List.mem_cons.1 ((h x).2 (List.mem_cons_of_mem _ hx)) with e | h1
      · subst e
        have := hm.1 x hx
        rw [ltB, bl_irr] at this
        cases this
      · exact h1

/-- Compact of an ascending list -/
theorem compact_inv (ts : List BK) (hs : ts.Pairwise fun a b => Op.bytesLess b a = false) : ∀ m, m ≤ ts.length →
    (Lib.compactUpTo ts.toArray m).Pairwise ltB ∧ ∀ x, x ∈ Lib.compactUpTo ts.toArray m ↔ ∃ j, j < m ∧ ts[j]? = some x := by
  intro m
  induction m with
  | zero =>
    intro _
    exact ⟨by simp [Lib.compactUpTo], fun x => ⟨fun h => by simp [Lib.compactUpTo] at h, fun ⟨j, h, _⟩ => by omega⟩⟩
  | succ m ih =>
    intro hm
    obtain ⟨ih1, ih2⟩ := ih (by omega)
    have hml : m < ts.length := by omega
    have hget : ts.toArray[m]! = ts[m] := by simp [hml]
    have hle : ∀ j, j < m → ∀ x, ts[j]? = some x → Op.bytesLess ts[m] x = false := by
      intro j hj x hx
      obtain ⟨h1, h2⟩ := List.getElem?_eq_some_iff.1 hx
      rw [← h2]
      exact List.pairwise_iff_getElem.1 hs j m h1 hml hj
    rw [Lib.compactUpTo_succ]
    by_cases hk : m = 0 ∨ ts.toArray[m]! ≠ ts.toArray[m - 1]!
    · have hkk : Lib.keeps ts.toArray m = true := by unfold Lib.keeps; exact decide_eq_true hk
      rw [if_pos hkk, hget]
      refine ⟨List.pairwise_append.2 ⟨ih1, by simp, fun a ha b hb => ?_⟩, fun x => ?_⟩
      · rw [List.mem_singleton.1 hb]
        obtain ⟨j, hj, hx⟩ := (ih2 a).1 ha
        refine bl_ne_lt (hle j hj a hx) fun e => ?_
        rcases hk with h0 | hne
        · omega
        · have h1 : m - 1 < ts.length := by omega
          have hg1 : ts.toArray[m - 1]! = ts[m - 1] := by simp [h1]
          rw [hget, hg1] at hne
          obtain ⟨hjl, hjx⟩ := List.getElem?_eq_some_iff.1 hx
          have hA : Op.bytesLess ts[m - 1] a = false := by
            rcases Nat.lt_or_ge j (m - 1) with hlt | hge
            · rw [← hjx]; exact List.pairwise_iff_getElem.1 hs j (m - 1) hjl h1 hlt
            · have : j = m - 1 := by omega
              subst this
              rw [hjx, bl_irr]
          have hB : Op.bytesLess ts[m] ts[m - 1] = false := List.pairwise_iff_getElem.1 hs (m - 1) m h1 hml (by omega)
          rw [e] at hA
          rcases bl_tri ts[m - 1] ts[m] with h | h | h
          · rw [hA] at h; cases h
          · exact hne h.symm
          · rw [hB] at h; cases h
      · rw [List.mem_append, ih2, List.mem_singleton]
        constructor
        · rintro (⟨j, hj, hx⟩ | rfl)
          · exact ⟨j, by omega, hx⟩
          · exact ⟨m, by omega, List.getElem?_eq_getElem hml⟩
        · rintro ⟨j, hj, hx⟩
          rcases Nat.lt_or_ge j m with h1 | h1
          · exact .inl ⟨j, h1, hx⟩
          · have : j = m := by omega
            subst this
            rw [List.getElem?_eq_getElem hml] at hx
            exact .inr (Option.some.inj hx).symm
    · have hkk : Lib.keeps ts.toArray m = false := by unfold Lib.keeps; exact decide_eq_false hk
      rw [if_neg (by rw [hkk]; simp), List.append_nil]
      refine ⟨ih1, fun x => ?_⟩
      rw [ih2]
      constructor
      · rintro ⟨j, hj, hx⟩
        exact ⟨j, by omega, hx⟩
      · rintro ⟨j, hj, hx⟩
        rcases Nat.lt_or_ge j m with h1 | h1
        · exact ⟨j, h1, hx⟩
        · have hjm : j = m := by omega
          subst hjm
          have h0 : j ≠ 0 := fun h => hk (.inl h)
          have h1 : j - 1 < ts.length := by omega
          have hne : ts.toArray[j]! = ts.toArray[j - 1]! := Decidable.byContradiction fun h => hk (.inr h)
          have hg1 : ts.toArray[j - 1]! = ts[j - 1] := by simp [h1]
          rw [hget, hg1] at hne
          refine ⟨j - 1, by omega, ?_⟩
          rw [List.getElem?_eq_getElem h1, ← hne, ← List.getElem?_eq_getElem hml]
          exact hx
theorem le_bl (x y : BK) : decide (x ≤ y) = !Op.bytesLess y x := by
  rw [bytesLess_eq]
  rw [Bool.eq_iff_iff]
  simp [List.not_lt]
theorem sorted_ms (ss : List BK) : (ss.mergeSort fun x y => decide (x ≤ y)).Pairwise fun a b => Op.bytesLess b a = false := by
  have h := List.pairwise_mergeSort (le := fun x y : BK => decide (x ≤ y)) (fun a b c h1 h2 => by
    rw [le_bl] at h1 h2 ⊢
    simp only [Bool.not_eq_true'] at h1 h2 ⊢
    cases h3 : Op.bytesLess c a
    · rfl
    · rw [bl_lt_le h3 h1] at h2
      cases h2) (fun a b => by
    rw [le_bl, le_bl]
    rcases bl_tri a b with h | rfl | h
    · rw [bl_asym h]; simp
    · rw [bl_irr]; simp
    · rw [bl_asym h]; simp) ss
  exact h.imp fun {a b} hab => by rw [le_bl] at hab; simpa using hab
theorem dist_strict (xs : List ByteArray) : (distL xs).Pairwise ltB ∧ ∀ x, x ∈ distL xs ↔ x ∈ bytesOf xs := by
  obtain ⟨h1, h2⟩ := compact_inv _ (sorted_ms (bytesOf xs)) _ (Nat.le_refl _)
  refine ⟨h1, fun x => ?_⟩
  rw [← List.mem_mergeSort (le := fun x y : BK => decide (x ≤ y)) (l := bytesOf xs)]
  have := h2 x
  rw [show distL xs = Lib.compactUpTo ((bytesOf xs).mergeSort fun x y => decide (x ≤ y)).toArray ((bytesOf xs).mergeSort fun x y => decide (x ≤ y)).length from rfl, this]
  constructor
  · rintro ⟨j, _, hx⟩; exact List.mem_of_getElem? hx
  · intro hx
    obtain ⟨j, hj⟩ := List.getElem?_of_mem hx
    exact ⟨j, (List.getElem?_eq_some_iff.1 hj).1, hj⟩
theorem cnt_lt (x : ByteArray) : ∀ (l : List ByteArray) (j : Nat) (y : ByteArray), j < cntB x l → l[j]? = some y → ltB y.toList x.toList
  | [], j, y, h, _ => by simp [cntB] at h
  | a :: r, j, y, h, hy => by
    rw [cntB] at h
    split at h
    · rename_i hc
      cases j with
      | zero => simp at hy; subst hy; exact hc
      | succ j => exact cnt_lt x r j y (by omega) (by simpa using hy)
    · omega
theorem cnt_ge (x : ByteArray) : ∀ (l : List ByteArray) (y : ByteArray), l[cntB x l]? = some y → Op.bytesLess y.toList x.toList = false
  | [], y, h => by simp at h
  | a :: r, y, h => by
    rw [cntB] at h
    split at h
    · exact cnt_ge x r y (by simpa using h)
    · rename_i hc
      simp at h
      subst h
      simpa using hc
def StrB (l : List ByteArray) : Prop := l.Pairwise fun a b => ltB a.toList b.toList
theorem ins_strict {l : List ByteArray} (x : ByteArray) (h : StrB l) : StrB (insM l x) ∧ ∀ y, y ∈ bytesOf (insM l x) ↔ y ∈ bytesOf l ∨ y = x.data.toList := by
  have htl : ∀ a ∈ l.take (cntB x l), ltB a.toList x.toList := by
    intro a ha
    obtain ⟨j, hj⟩ := List.getElem?_of_mem ha
    rw [List.getElem?_take] at hj
    split at hj
    · exact cnt_lt x l j a (by assumption) hj
    · cases hj
  have key : (∀ b ∈ l.drop (cntB x l), ltB x.toList b.toList) → StrB (l.take (cntB x l) ++ [x] ++ l.drop (cntB x l)) ∧ ∀ y, y ∈ bytesOf (l.take (cntB x l) ++ [x] ++ l.drop (cntB x l)) ↔ y ∈ bytesOf l ∨ y = x.data.toList := by
    intro hd
    have hsp : StrB (l.take (cntB x l) ++ l.drop (cntB x l)) := by rw [List.take_append_drop]; exact h
    obtain ⟨p1, p2, p3⟩ := List.pairwise_append.1 hsp
    refine ⟨List.pairwise_append.2 ⟨List.pairwise_append.2 ⟨p1, by simp, fun a ha b hb => by rw [List.mem_singleton.1 hb]; exact htl a ha⟩, p2, fun a ha b hb => ?_⟩, fun y => ?_⟩
    · rcases List.mem_append.1 ha with h1 | h1
      · exact p3 a h1 b hb
      · rw [List.mem_singleton.1 h1]; exact hd b hb
    · conv => rhs; rw [← List.take_append_drop (cntB x l) l]
      simp only [bytesOf, List.map_append, List.mem_append, List.map_cons, List.map_nil, List.mem_singleton]
      constructor
      · rintro ((h1 | h1) | h1)
        · exact .inl (.inl h1)
        · exact .inr h1
        · exact .inl (.inr h1)
      · rintro ((h1 | h1) | h1)
        · exact .inl (.inl h1)
        · exact .inr h1
        · exact .inl (.inr h1)
  unfold insM
  split
  · rename_i y hy
    split
    · rename_i he
      have he := beq_iff_eq.1 he
      refine ⟨h, fun z => ⟨.inl, fun hz => ?_⟩⟩
      rcases hz with hz | rfl
      · exact hz
      · rw [ByteArray.toList_eq, ByteArray.toList_eq] at he
        rw [← he]
        exact List.mem_map.2 ⟨y, List.mem_of_getElem? hy, rfl⟩
    · rename_i he
      refine key fun b hb => ?_
      have hxy : ltB x.toList y.toList := bl_ne_lt (cnt_ge x l y hy) fun e => he (beq_iff_eq.2 e.symm)
      rw [drop_of hy] at hb
      rcases List.mem_cons.1 hb with rfl | hb
      · exact hxy
      · have hsd : StrB (l.drop (cntB x l)) := h.sublist (List.drop_sublist _ _)
        rw [drop_of hy] at hsd
        exact bl_tr hxy ((List.pairwise_cons.1 hsd).1 b hb)
  · rename_i hy
    refine key fun b hb => ?_
    rw [List.drop_of_length_le (List.getElem?_eq_none_iff.1 hy)] at hb
    cases hb
theorem insAll_strict (xs : List ByteArray) : ∀ l, StrB l → StrB (xs.foldl insM l) ∧ ∀ y, y ∈ bytesOf (xs.foldl insM l) ↔ y ∈ bytesOf l ∨ y ∈ bytesOf xs := by
  induction xs with
  | nil => intro l h; exact ⟨h, fun y => by simp [bytesOf]⟩
  | cons a r ih =>
    intro l h
    obtain ⟨h1, h2⟩ := ins_strict a h
    obtain ⟨h3, h4⟩ := ih _ h1
    refine ⟨h3, fun y => ?_⟩
    rw [List.foldl_cons, h4, h2]
    simp only [bytesOf, List.map_cons, List.mem_cons]
    constructor
    · rintro ((h | h) | h)
      · exact .inl h
      · exact .inr (.inl h)
      · exact .inr (.inr h)
    · rintro (h | h | h)
      · exact .inl (.inl h)
      · exact .inl (.inr h)
      · exact .inr h
theorem mid_eq (xs : List ByteArray) : bytesOf (insAll xs) = distL xs := by
  obtain ⟨h1, h2⟩ := insAll_strict xs [] List.Pairwise.nil
  obtain ⟨h3, h4⟩ := dist_strict xs
  refine strict_eq ?_ h3 fun x => ?_
  · refine List.pairwise_map.2 (List.Pairwise.imp (fun {a b} hab => ?_) h1)
    have : ltB a.toList b.toList := hab
    rwa [ByteArray.toList_eq, ByteArray.toList_eq] at this
  · rw [h4]
    have := h2 x
    show x ∈ bytesOf (xs.foldl insM []) ↔ _
    rw [this]
    simp [bytesOf]

end Go.Proofs.YtgcklgkhdokchaaDoor
