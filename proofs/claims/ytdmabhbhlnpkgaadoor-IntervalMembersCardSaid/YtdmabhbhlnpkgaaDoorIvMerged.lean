/- The contract of interval.merged. -/
import Derived.Test.YtdmabhbhlnpkgaaDoorSortTSp
import Derived.Test.YtdmabhbhlnpkgaaDoorIvSpans
import Derived.Test.YtdmabhbhlnpkgaaDoorValRows
import Derived.Laws.OwnMore
namespace Go.Proofs.YtdmabhbhlnpkgaaDoor
open Go.RowKit

theorem ordSp : Ordered (fun p q : PS => cmC (spP p).1 (spP q).1) := ⟨fun _ _ => lin_cut.anti _ _, fun _ _ _ => lin_cut.tr _ _ _⟩

set_option maxHeartbeats 1000000 in
theorem cloneSp_any (xs : List PS) (A : Option Addr) (n c : Nat) (w : World) (h : SS w A n c xs) (hn : n ≤ 100000) :
    Calls Tryd.prog 51 #[.slice A n c] w fun e w' => ∃ v, e = .returned v ∧ w'.ownsRow w.heap.size 54 12 v n (flat recS xs) ∧ Below w.heap.size w w' := by
  obtain ⟨j0, hj0, hy0, hy1, hy2⟩ := info_parts info_span
  have HL := Lib.hid h.sr.ln
  cases A with
  | none =>
    have h0 : n = 0 := by
      rcases Nat.eq_zero_or_pos n with h0 | h0
      · exact h0
      · obtain ⟨b, off, e, _⟩ := h.sr.el h0; cases e
    subst h0
    have HX : Hid (xs = []) := List.eq_nil_of_length_eq_zero HL.out.symm
    clear h
    have kn := fun (w : World) => Lib.run_eql_slice_nil (P := Tryd.prog) w 46 54 none 0 c 0 0 Tryd.underlying46
    go_enter Tryd.func51, Tryd.ntmps51
    go_wp2_with fail
    go_ret
    exact ⟨_, rfl, by rw [HX.out]; exact own_nil _ _ _ _, Below.refl _ _⟩
  | some ad =>
    have hR : Reads w w.heap.size 12 (some ad) n (flat recS xs) := by
      refine ⟨by rw [flat_length recS_length, HL.out], fun hp => ?_⟩
      obtain ⟨b, off, e, hb, hel⟩ := h.sr.el hp
      cases e
      refine ⟨_, rfl, hb, fun j u hu => ?_⟩
      have hj := (List.getElem?_eq_some_iff.1 hu).1
      rw [flat_length recS_length] at hj
      obtain ⟨a, v, g1, g2, g3⟩ := flat_at' recS_length (by omega) xs j hj
      have := hel (j / 12) a g1 (j % 12) v g2
      rw [addr_add]
      rw [g3] at hu
      cases hu
      rw [show off + j = off + j / 12 * 12 + j % 12 by omega]
      exact this
    have HR := Lib.hid hR
    have hO : (w.alloc (Obj.cells #[] 54)).ownsRow w.heap.size 54 12 (.slice (some ⟨w.heap.size, 0, none⟩) 0 0) 0 [] :=
      ⟨rfl, .inr ⟨w.heap.size, 0, #[], rfl, Nat.le_refl _, Blk.new_at rfl, Nat.le_refl _, Nat.zero_le _, rfl, rfl⟩⟩
    have HO := Lib.hid hO
    have h1 : ∀ u ∈ flat recS xs, u.oneCell' = true := by
      intro u hu
      obtain ⟨p, _, hp⟩ := List.mem_flatMap.1 hu
      exact recS_one p u hp
    have H1 := Lib.hid h1
    clear h hR hO h1
    have kn := fun (w : World) => Lib.run_eql_slice_nil (P := Tryd.prog) w 46 54 (some ad) n c 0 0 Tryd.underlying46
    go_enter Tryd.func51, Tryd.ntmps51
    go_wp2_with (at_builtin; refine wpList_append_any _ rfl _ _ 46 rfl w.heap.size 54 j0 (aggS (((VC.zero, Val.zero), false), ((VC.zero, Val.zero), false))) 12 176 Tryd.underlying46 hj0 hy0 hy1 hy2 rfl (by decide) (.slice (some ⟨w.heap.size, 0, none⟩) 0 0) 0 [] rfl HO.out w.heap.size (some ad) n c (flat recS xs) rfl (HR.out.alloc (Nat.le_refl _) _) H1.out (by unfold maxLen; omega) (by omega) (by simp) ?_)
    intro v' w2 hown hg _
    go_wp2_with fail
    go_ret
    refine ⟨v', rfl, by simpa using hown, ?_⟩
    exact ((Below.refl w.heap.size w).alloc (Nat.le_refl _) _).grown hg (by simp) (fun k hk => by simp [Value.ownBlock] at hk; omega)

theorem isortSp_nil (w : World) : Calls Tryd.prog 74 #[.slice none 0 0, .int .i64 0, .int .i64 0, .func (.func 53) #[] #[]] w fun e w' => e = .returned (.tuple #[]) ∧ w = w' := by
  go_enter Tryd.func74, Tryd.ntmps74
  go_wp2_with fail
  go_loopw [8] (fun v8 wr => v8 = .int .i64 1 ∧ wr = w) (fun _ _ => 0)
  case atStart => exact ⟨rfl, rfl⟩
  case round =>
    obtain ⟨rfl, rfl⟩ := hrel
    go_wp2_with fail
    go_end0
    exact ⟨rfl, rfl⟩
theorem stableSp_nil (w : World) : Calls Tryd.prog 63 #[.slice none 0 0, .int .i64 0, .func (.func 53) #[] #[]] w fun e w' => e = .returned (.tuple #[]) ∧ w = w' := by
  go_enter Tryd.func63, Tryd.ntmps63
  go_wp2_with fail
  go_loop [7, 8] (fun v7 v8 => v7 = .int .i64 0 ∧ v8 = .int .i64 20) (fun _ _ => 0)
  case atStart => exact ⟨rfl, rfl⟩
  case round =>
    obtain ⟨rfl, rfl⟩ := hrel
    go_wp2_with fail
    refine (isortSp_nil _).mono ?_
    rintro e w1 ⟨rfl, rfl⟩
    go_wp2_with fail
    go_loop [6] (fun v6 => v6 = .int .i64 20) (fun _ => 0)
    case atStart => rfl
    case round =>
      subst hrel
      go_wp2_with fail
      go_end0
      exact ⟨rfl, rfl⟩
theorem sortSp_nil (w : World) : Calls Tryd.prog 52 #[.slice none 0 0, .func (.func 53) #[] #[]] w fun e w' => e = .returned (.tuple #[]) ∧ w = w' := by
  go_enter Tryd.func52, Tryd.ntmps52
  go_wp2_with fail
  refine (stableSp_nil _).mono ?_
  rintro e w1 ⟨rfl, rfl⟩
  go_wp2_with fail
  go_end0
  exact ⟨rfl, rfl⟩
theorem sortSp_any (L : List (PS × Nat)) (g n c : Nat) (w : World) (hr : SRowSp w g L) (hn : n = L.length) (hz : n * 176 ≤ reach) (ht : Tagged L) (hc : CmpOkSp g w L) :
    Calls Tryd.prog 52 #[.slice (some ⟨g, 0, none⟩) n c, .func (.func 53) #[] #[]] w (IsDoneSp g w [] L []) := by
  have HR := Lib.hid hr
  have HN := Lib.hid hn
  have HT := Lib.hid ht
  have HC := Lib.hid hc
  have HZ := Lib.hid hz
  clear hr hn ht hc hz
  go_enter Tryd.func52, Tryd.ntmps52
  go_wp2_with fail
  refine (stableSp_any ordSp L g n c _ HR.out HN.out HZ.out HT.out HC.out).mono ?_
  rintro e w1 hd
  have HD := Lib.hid hd
  obtain ⟨rfl, _⟩ := hd
  go_wp2_with fail
  go_end0
  exact HD.out

/-- the list is sorted by its beginnings -/
def SortedBy (xs ys : List PS) : Prop := ys.Perm xs ∧ ys.Pairwise fun p q => cmC (spP p).1 (spP q).1 ≤ 0
theorem SortedBy.of {xs : List PS} {S : List (PS × Nat)} (h : Sorted (fun p q : PS => cmC (spP p).1 (spP q).1) (tagFrom 0 xs) S) : SortedBy xs (S.map Prod.fst) := by
  refine ⟨?_, ?_⟩
  · have := h.perm.map Prod.fst
    rwa [tagFrom_map] at this
  · rw [List.pairwise_map]
    refine h.ord.imp fun {a b} hab => ?_
    have hab' : cmC (spP a.1).1 (spP b.1).1 < 0 ∨ cmC (spP a.1).1 (spP b.1).1 = 0 ∧ a.2 < b.2 := hab
    omega
theorem SortedBy.merge {xs ys : List PS} (h : SortedBy xs ys) (hne : ∀ x ∈ xs, cmC (spP x).1 (spP x).2 < 0 ∧ VC1 (spP x).1 ∧ VC1 (spP x).2) :
    IsNF (fun a => inS cmC a (xs.map spP)) (mergeS cmC (ys.map spP)) ∧ (mergeS cmC (ys.map spP)).length ≤ xs.length := by
  have h1 : ∀ s ∈ ys.map spP, cmC s.1 s.2 < 0 ∧ VC1 s.1 ∧ VC1 s.2 := by
    intro s hs
    obtain ⟨x, hx, rfl⟩ := List.mem_map.1 hs
    exact hne x (h.1.subset hx)
  have h2 : (ys.map spP).Pairwise fun s t => cmC s.1 t.1 ≤ 0 := by rw [List.pairwise_map]; exact h.2
  have hm := mergeS_ok lin_cut h1 h2
  refine ⟨⟨hm.nf, fun a => by rw [hm.mem]; exact inS_perm (h.1.map spP)⟩, ?_⟩
  have := mergeS_len (cm := cmC) (ys.map spP)
  have hl := h.1.length_eq
  simp only [List.length_map] at this
  omega
/-- a row of the call's own as a row to be sorted -/
theorem SRowSp.of_own {w : World} {base g n cap : Nat} {xs : List PS} (h : w.ownsRow base 54 12 (.slice (some ⟨g, 0, none⟩) n cap) n (flat recS xs)) : SRowSp w g (tagFrom 0 xs) := by
  rcases h.2 with ⟨h', _⟩ | ⟨g', cap', cur, h', _, hg, _, _, _, htake⟩
  · simp at h'
  · simp only [Value.slice.injEq, Option.some.injEq, Addr.mk.injEq, and_true, true_and] at h'
    obtain ⟨rfl, rfl⟩ := h'
    have e : flat recTSp (tagFrom 0 xs) = flat recS xs := by
      have : ∀ k, flat recTSp (tagFrom k xs) = flat recS xs := by
        intro k
        clear hg htake h
        induction xs generalizing k with
        | nil => rfl
        | cons x r ih =>
          have e1 : flat recTSp (tagFrom k (x :: r)) = recS x ++ flat recTSp (tagFrom (k + 1) r) := rfl
          rw [e1, ih]; rfl
      exact this 0
    refine ⟨cur.toList.drop (n * 12), ?_⟩
    show w.heap[g]? = _
    rw [hg, e, ← htake, List.take_append_drop]
theorem SRowSp.reads {w : World} {g n cap : Nat} {L : List (PS × Nat)} (h : SRowSp w g L) (hn : n = L.length) (hc : n ≤ cap) : SR 12 recS w (some ⟨g, 0, none⟩) n cap (L.map Prod.fst) := by
  refine ⟨by rw [List.length_map, hn], hc, fun _ => ⟨g, 0, rfl, h.lt, fun i a hi j v hj => ?_⟩⟩
  rw [List.getElem?_map] at hi
  obtain ⟨p, hp, rfl⟩ := Option.map_eq_some_iff.1 hi
  rw [Nat.zero_add]
  exact h.cell hp j v hj

end Go.Proofs.YtdmabhbhlnpkgaaDoor
