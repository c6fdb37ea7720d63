/- The contracts of slices.Insert and slices.Delete at chunks. -/
import Derived.Test.YtgcklgkhdokchaaDoorChCopy
import Derived.Test.YtgcklgkhdokchaaDoorKit6
import Derived.Shelf.Spec.SlicesInsertGrow
namespace Go.Proofs.YtgcklgkhdokchaaDoor
open Go.RowKit

/-- a row of the call's own, with its spare cells -/
theorem own_blk {w : World} {base : Nat} {e : TypeId} {s n c g : Nat} {xs : List Value} (h : w.ownsRow base e s (.slice (some ⟨g, 0, none⟩) n c) n xs) :
    ∃ R : List Value, Blk w g e (xs ++ R).toArray ∧ (xs ++ R).length = c * s ∧ n ≤ c ∧ c ≤ maxLen ∧ base ≤ g := by
  rcases h.2 with ⟨h1, _⟩ | ⟨g', cap, cur, hv, hg, hh, hnc, hm, hsz, htk⟩
  · cases h1
  · injection hv with h1 h2 h3
    injection h1 with h1
    injection h1 with h1
    subst h1 h3
    refine ⟨cur.toList.drop (n * s), ?_, ?_, hnc, hm, hg⟩
    · rw [← htk, List.take_append_drop]
      exact hh
    · rw [← htk, List.take_append_drop]
      simpa using hsz
theorem blk_own {w : World} {base : Nat} {e : TypeId} {s n c g : Nat} {xs R : List Value} (h : Blk w g e (xs ++ R).toArray) (hx : xs.length = n * s) (hl : (xs ++ R).length = c * s) (hnc : n ≤ c) (hm : c ≤ maxLen) (hg : base ≤ g) :
    w.ownsRow base e s (.slice (some ⟨g, 0, none⟩) n c) n xs :=
  ⟨hx, .inr ⟨g, c, (xs ++ R).toArray, rfl, hg, h, hnc, hm, by simpa using hl, by rw [List.toList_toArray, ← hx, List.take_left]⟩⟩

theorem run_copy_rec {P : Program} (w : World) (dT sT ty elem : TypeId) (b o dLen dCap : Nat) (a : Addr) (sLen sCap s : Nat) (cs : List Value)
    (hu : P.underlying dT = some (.slice elem)) (hs : (P.info? elem).map (·.size) = some s) (hn : cs.length = Nat.min sLen dLen * s)
    (hsrc : ∀ j v, cs[j]? = some v → w.cell? (a.add j) = some v) (hc : ∀ j, j < cs.length → (w.cell? ⟨b, o + j, none⟩).isSome = true) (hf : ∀ j, j < cs.length → w.frozen? ⟨b, o + j, none⟩ = false) (h1 : ∀ v ∈ cs, v.oneCell' = true) :
    (Builtin.copy_ #[dT, sT] ty #[.slice (some ⟨b, o, none⟩) dLen dCap, .slice (some a) sLen sCap]).run P w = .ok (goInt (Nat.min sLen dLen)) (w.setCells b o cs) := by
  have hl := run_loadCells_list (P := P) w a cs hsrc
  have hst := run_storeCells_cells (P := P) b o cs 0 w (by simpa using hc) (by simpa using hf) h1
  cases hq : P.info? elem with
  | none => simp [hq] at hs
  | some i =>
    have hi : i.size = s := by simpa [hq] using hs
    simp [Builtin.copy_, run_underlying hu, Builtin.lenOf, Builtin.firstCells, sizeOf, typeInfo, hq, hi, ← hn, hl, hst]

set_option maxRecDepth 100000 in
theorem overlaps_run (w : World) (g vb off la lb cb ca : Nat) (k : Nat) (hne : vb ≠ g) (tA tB : TypeId) (kA kB : Nat) (hsa : w.shape? vb = some (tA, kA)) (hsb : w.shape? g = some (tB, kB)) (hkB : kB ≠ 0)
    (hfa : w.frozen? ⟨vb, off, none⟩ = false) (hfe : w.frozen? ⟨vb, kA, none⟩ = false) :
    (callFunc 53 #[.slice (some ⟨vb, off, none⟩) la ca, .slice (some ⟨g, k, none⟩) lb cb]).run Tryd.prog w = .ok (.value (.bool false)) w := by
  rw [run_callFunc_extern Tryd.func53 (by kernel_rfl) (by kernel_rfl) (by kernel_rfl) (e := Extern.SlicesOverlaps.overlaps #[28, 28] #[4]) (by kernel_rfl),
      Lib.run_overlaps_apart w 28 4 45 Tryd.underlying28 5 (fun _ => rfl) ⟨vb, off, none⟩ ⟨g, k, none⟩ la ca lb cb hne tA tB kA kB hsa hsb hkB hfa hfe]
  rfl
theorem Blk.shape {w : World} {g : Nat} {t : TypeId} {cs : Array Value} (h : Blk w g t cs) : w.shape? g = some (t, cs.size) := by
  unfold Blk at h
  unfold World.shape?
  rw [h]

/-- what Insert hands back -/
def InsOk (lo g n : Nat) (cs : List Ch) (w : World) (e : Ending) (w' : World) : Prop :=
  ∃ A c, e = .returned (.slice A (n + 1) c) ∧ w'.ownsRow lo 45 5 (.slice A (n + 1) c) (n + 1) (flat recC cs) ∧ w.grownBy w' (some g)

set_option maxRecDepth 100000 in
set_option maxHeartbeats 1000000 in
theorem insert_end (cs : List Ch) (x : Ch) (lo g n c vb : Nat) (w : World) (h : w.ownsRow lo 45 5 (.slice (some ⟨g, 0, none⟩) n c) n (flat recC cs)) (hx : Blk w vb 45 (recC x).toArray) (hz : (n + 1) * 56 ≤ reach) (hlo : lo ≤ w.heap.size) :
    Calls Tryd.prog 34 #[.slice (some ⟨g, 0, none⟩) n c, .int .i64 n, .slice (some ⟨vb, 0, none⟩) 1 1] w (InsOk lo g n (cs ++ [x]) w) := by
  obtain ⟨j0, hj0, hy0, hy1, hy2⟩ := info_parts info_chunk
  have HO := Lib.hid h
  have HR : Hid (Reads w w.heap.size 5 (some ⟨vb, 0, none⟩) 1 (recC x)) := ⟨rfl, fun _ => ⟨_, rfl, hx.lt, fun j u hu => by rw [addr_add, Nat.zero_add, hx.cell]; simpa using hu⟩⟩
  have H1 := Lib.hid (recC_one x)
  obtain ⟨R, _, _, hnc, hcm, _⟩ := own_blk h
  unfold maxLen at hcm
  unfold reach at hz
  clear h hx
  go_enter Tryd.func34, Tryd.ntmps34
  go_wp2_with (at_builtin; refine wpList_append_any _ rfl _ _ 28 rfl lo 45 j0 (aggC Ch.zero) 5 56 Tryd.underlying28 hj0 hy0 hy1 hy2 rfl (by decide) (.slice (some ⟨g, 0, none⟩) n c) n (flat recC cs) rfl HO.out w.heap.size (some ⟨vb, 0, none⟩) 1 1 (recC x) rfl HR.out H1.out (by unfold maxLen; omega) (by omega) hlo ?_)
  all_goals
    intro v' w2 hown hg _
    obtain ⟨A, c', rfl, _⟩ := own_slice hown
    go_wp2_with fail
    go_ret
    refine ⟨A, c', rfl, ?_, hg⟩
    rw [flat_snoc]
    exact hown

set_option maxRecDepth 100000 in
set_option maxHeartbeats 1000000 in
theorem insert_shift (cs : List Ch) (x : Ch) (lo g n c i vb : Nat) (w : World) (h : w.ownsRow lo 45 5 (.slice (some ⟨g, 0, none⟩) n c) n (flat recC cs)) (hx : Blk w vb 45 (recC x).toArray) (hne : vb ≠ g) (hi : i < n) (hroom : n + 1 ≤ c) :
    Calls Tryd.prog 34 #[.slice (some ⟨g, 0, none⟩) n c, .int .i64 i, .slice (some ⟨vb, 0, none⟩) 1 1] w (InsOk lo g n (cs.take i ++ [x] ++ cs.drop i) w) := by
  obtain ⟨j0, hj0, hy0, hy1, hy2⟩ := info_parts info_chunk
  have hi5 : (Tryd.prog.info? 45).map (·.size) = some 5 := by rw [hj0]; simp [hy1]
  obtain ⟨R, hB, hlen, hnc, hcm, hge⟩ := own_blk h
  have hsa := hx.shape
  have hsb := hB.shape
  rw [List.size_toArray, hlen] at hsb
  have hov : ∀ lb cb, (callFunc 53 #[.slice (some ⟨vb, 0, none⟩) 1 1, .slice (some ⟨g, (i + 1) * 5, none⟩) lb cb]).run Tryd.prog w = .ok (.value (.bool false)) w := fun lb cb =>
    overlaps_run w g vb 0 1 lb cb 1 ((i + 1) * 5) hne _ _ _ _ hsa hsb (by omega) (hx.frozen _) (hx.frozen _)
  unfold maxLen at hcm
  have hin : ((i : Int) == (n : Int)) = false := by simp; omega
  have hi0 : (0 : Int) ≤ (i : Int) + 1 := by omega
  have hi1 : (i : Int) ≤ (n : Int) + 1 := by omega
  have hi2 : (i : Int) ≤ (n : Int) := by omega
  have hit : ((i : Int) + 1).toNat = i + 1 := by omega
  have hnt : ((n : Int) + 1).toNat = n + 1 := by omega
  have hfl := flat_length recC_length cs
  have hcn : cs.length = n := by have := h.1; omega
  have hdl : (flat recC (cs.drop i)).length = (n - i) * 5 := by rw [flat_length recC_length, List.length_drop, hcn]
  have hmin : Nat.min (n + 1 - i) (n - i) = n - i := Nat.min_eq_right (by omega)
  have hcell : ∀ k, k < c * 5 → (w.cell? ⟨g, k, none⟩).isSome = true := by
    intro k hk
    rw [hB.cell, Array.getElem?_eq_getElem (by rw [List.size_toArray, hlen]; exact hk)]
    rfl
  obtain ⟨W1, hW1⟩ : ∃ W1, W1 = w.drew.setCells g ((i + 1) * 5) (flat recC (cs.drop i)) := ⟨_, rfl⟩
  have hB1 : Blk W1 g 45 (setList (flat recC cs ++ R) ((i + 1) * 5) (flat recC (cs.drop i))).toArray := by
    rw [hW1]
    exact Blk.setCells _ _ (w := w.drew) hB.drew
  have hl1 : (setList (flat recC cs ++ R) ((i + 1) * 5) (flat recC (cs.drop i))).length = c * 5 := by
    rw [setList_eq _ _ _ (by rw [hdl, hlen]; omega)]
    simp only [List.length_append, List.length_take, List.length_drop] at hlen ⊢
    rw [hdl]
    omega
  have hcp1 : ∀ ty dc sc, (Builtin.copy_ #[28, 28] ty #[.slice (some ⟨g, (i + 1) * 5, none⟩) (n - i) dc, .slice (some ⟨g, i * 5, none⟩) (n + 1 - i) sc]).run Tryd.prog w.drew = .ok (goInt ((n - i : Nat) : Int)) W1 := fun ty dc sc => by
    rw [hW1, ← hmin]
    refine run_copy_rec w.drew _ _ ty 45 g ((i + 1) * 5) (Nat.min (n + 1 - i) (n - i)) dc ⟨g, i * 5, none⟩ (n + 1 - i) sc 5 (flat recC (cs.drop i)) Tryd.underlying28 hi5 ?_ ?_ ?_ ?_ (flat_one recC_one _) |>.trans ?_
    · rw [hmin, hmin]; exact hdl
    · intro j v hj
      rw [addr_add]
      show w.cell? _ = _
      rw [hB.cell, List.getElem?_toArray]
      rw [← flat_drop recC_length, List.getElem?_drop] at hj
      rw [List.getElem?_append_left (List.getElem?_eq_some_iff.1 hj).1]
      exact hj
    · intro j hj
      exact hcell _ (by omega)
    · intro j hj
      exact hB.frozen _
    · rw [hmin, hmin]
  have hcp2 : ∀ ty dc, (Builtin.copy_ #[28, 28] ty #[.slice (some ⟨g, i * 5, none⟩) (n + 1 - i) dc, .slice (some ⟨vb, 0, none⟩) 1 1]).run Tryd.prog W1 = .ok (goInt 1) (W1.setCells g (i * 5) (recC x)) := fun ty dc => by
    have hm1 : Nat.min 1 (n + 1 - i) = 1 := Nat.min_eq_left (by omega)
    refine run_copy_rec W1 _ _ ty 45 g (i * 5) (n + 1 - i) dc ⟨vb, 0, none⟩ 1 1 5 (recC x) Tryd.underlying28 hi5 ?_ ?_ ?_ ?_ (recC_one x) |>.trans ?_
    · rw [hm1]; rfl
    · intro j v hj
      rw [addr_add, Nat.zero_add]
      have : Blk W1 vb 45 (recC x).toArray := by
        rw [hW1]
        exact (heap_setCells g _ _ w.drew vb hne).trans hx
      rw [this.cell]
      simpa using hj
    · intro j hj
      have h5 : j < 5 := hj
      rw [hB1.cell, Array.getElem?_eq_getElem (by rw [List.size_toArray, hl1]; omega)]
      rfl
    · intro j hj
      exact hB1.frozen _
    · rw [hm1]; rfl
  have HE : Hid (InsOk lo g n (cs.take i ++ [x] ++ cs.drop i) w (.returned (.slice (some ⟨g, 0, none⟩) (n + 1) c)) (W1.setCells g (i * 5) (recC x))) := by
    have hB2 := Blk.setCells (recC x) (i * 5) hB1
    have e5 : (recC x).length = 5 := rfl
    have htl : (flat recC (cs.take i)).length = i * 5 := by rw [flat_length recC_length, List.length_take, hcn, Nat.min_eq_left (by omega)]
    have hLt : (flat recC cs ++ R).take (i * 5) = flat recC (cs.take i) := by
      rw [List.take_append_of_le_length (by omega), flat_take recC_length]
    have e1 : setList (setList (flat recC cs ++ R) ((i + 1) * 5) (flat recC (cs.drop i))) (i * 5) (recC x) = flat recC (cs.take i ++ [x] ++ cs.drop i) ++ (flat recC cs ++ R).drop ((n + 1) * 5) := by
      rw [setList_eq _ _ _ (by rw [hl1, e5]; omega), e5, setList_eq _ _ _ (by rw [hdl, hlen]; omega), hdl, show (i + 1) * 5 + (n - i) * 5 = (n + 1) * 5 by omega]
      rw [List.append_assoc ((flat recC cs ++ R).take ((i + 1) * 5)), List.take_append_of_le_length (by rw [List.length_take, hlen]; omega), List.take_take, Nat.min_eq_left (by omega), hLt]
      rw [show i * 5 + 5 = ((flat recC cs ++ R).take ((i + 1) * 5)).length by rw [List.length_take, hlen, Nat.min_eq_left (by omega)]; omega, List.drop_left]
      rw [flat_append, flat_append]
      simp [flat]
    rw [e1] at hB2
    have hl2 : (flat recC (cs.take i ++ [x] ++ cs.drop i)).length = (n + 1) * 5 := by
      rw [flat_length recC_length]
      simp
      omega
    refine ⟨_, c, rfl, blk_own hB2 hl2 ?_ hroom (by unfold maxLen; omega) hge, ?_⟩
    · rw [List.length_append, hl2, List.length_drop, hlen]; omega
    · have hbut : But g w (W1.setCells g (i * 5) (recC x)) := by
        refine But.setCells _ _ ?_
        rw [hW1]
        exact But.setCells _ _ (But.of_below ((Below.refl w.heap.size w).drew))
      exact ⟨hbut.os, hbut.tape, hbut.output, hbut.size, fun k hk hkg => hbut.block k hk fun e => hkg (by rw [e])⟩
  have e6 : n - i = n + 1 - (i + 1) := by omega
  have hci : (c = i) = False := by simp; omega
  have hci1 : (c = i + 1) = False := by simp; omega
  have hw1 : IntKind.i64.wrap ((i : Int) + 1) = (i : Int) + 1 := by rw [IntKind.wrap_i64]; omega
  have hin2 : i ≤ n := by omega
  have hin3 : (i : Int) + 1 ≤ (n : Int) + 1 := by omega
  have hin4 : i + 1 ≤ n + 1 := by omega
  clear hi5 hj0 hy0 hy1 hy2 hsa hsb hfl hcn hdl hmin hcell hB1 hl1 hW1 hB hlen h hx e6
  go_enter Tryd.func34, Tryd.ntmps34
  go_wp2_with (simp only [hov])
  go_region_law (refine step_copy_runI rfl _ _ 28 28 rfl _ _ (by simp [Act.eval, Act.put]) (by simp [Act.eval, Act.put]) (hcp1 _ _ _) ?_)
  go_wp2_with (at_builtin; refine wpList_copy_runI _ rfl _ _ 28 28 rfl _ _ rfl rfl (hcp2 _ _) ?_)
  go_ret
  exact HE.out

set_option maxRecDepth 100000 in
set_option maxHeartbeats 1000000 in
theorem insert_grow (cs : List Ch) (x : Ch) (lo g n c i vb : Nat) (w : World) (h : w.ownsRow lo 45 5 (.slice (some ⟨g, 0, none⟩) n c) n (flat recC cs)) (hx : Blk w vb 45 (recC x).toArray) (hi : i < n) (hroom : c < n + 1) (hz : (n + 1) * 56 ≤ reach) (hlo : lo ≤ w.heap.size) :
    Calls Tryd.prog 34 #[.slice (some ⟨g, 0, none⟩) n c, .int .i64 i, .slice (some ⟨vb, 0, none⟩) 1 1] w (InsOk lo g n (cs.take i ++ [x] ++ cs.drop i) w) := by
  obtain ⟨j0, hj0, hy0, hy1, hy2⟩ := info_parts info_chunk
  have hi5 : (Tryd.prog.info? 45).map (·.size) = some 5 := by rw [hj0]; simp [hy1]
  obtain ⟨R, hB, hlen, hnc, hcm, hge⟩ := own_blk h
  have hcn : cs.length = n := by have := h.1; have := flat_length recC_length cs; omega
  obtain rfl : c = n := by omega
  unfold maxLen at hcm
  unfold reach at hz
  have hfl := flat_length recC_length cs
  have hgl := hB.lt
  have hvl := hx.lt
  have hsrc : ∀ j v, (flat recC cs)[j]? = some v → w.cell? ⟨g, j, none⟩ = some v := fun j v hj => by
    rw [hB.cell, List.getElem?_toArray, List.getElem?_append_left (List.getElem?_eq_some_iff.1 hj).1]
    exact hj
  have htl : (flat recC (cs.take i)).length = i * 5 := by rw [flat_length recC_length, List.length_take, hcn, Nat.min_eq_left (by omega)]
  have hdl : (flat recC (cs.drop i)).length = (c - i) * 5 := by rw [flat_length recC_length, List.length_drop, hcn]
  have hold : (Builtin.firstCells j0.size i (.slice (some ⟨g, 0, none⟩) i c)).run Tryd.prog w.drew = .ok (flat recC (cs.take i)).toArray w.drew := by
    rw [hy1]
    exact run_firstCells_some w.drew 5 i ⟨g, 0, none⟩ i c (flat recC (cs.take i)) htl (fun j v hj => by
      rw [addr_add, Nat.zero_add]
      rw [← flat_take recC_length, List.getElem?_take] at hj
      split at hj
      · exact hsrc j v hj
      · cases hj)
  have hik : i + (c + 1 - i) = c + 1 := by omega
  have hkk : (c : Int) + 1 - (i : Int) = ((c + 1 - i : Nat) : Int) := by omega
  have hrz : ∀ ty, (Builtin.append_ #[28, 3] ty #[.slice (some ⟨g, 0, none⟩) i c, .int .i64 ((c : Int) + 1 - (i : Int))]).run Tryd.prog w =
      .ok (.slice (some ⟨w.heap.size, 0, none⟩) (c + 1) (grownCap w (c + 1) c 45)) (w.drew.alloc (.cells ((flat recC (cs.take i)).toArray ++ Builtin.zeroCells (aggC Ch.zero).cells (c + 1 - i) ++ Builtin.zeroCells (aggC Ch.zero).cells (grownCap w (c + 1) c 45 - (c + 1))) 45)) := fun ty => by
    have h := Lib.run_append_grow_zeros w 28 3 ty 45 j0 _ .i64 .i64 Tryd.underlying28 Tryd.underlying3 hj0 hy0 (some ⟨g, 0, none⟩) i c (flat recC (cs.take i)) hold (c + 1 - i) (by omega) (by omega) (by omega) (by omega) (by rw [hy2]; omega) (by rw [hy2, hik]; exact growslice_fits hroom (by omega))
    rw [hik] at h
    rw [hkk]
    exact h
  obtain ⟨G, hG⟩ : ∃ G, G = grownCap w (c + 1) c 45 := ⟨_, rfl⟩
  have hGn : c + 1 ≤ G := by rw [hG]; exact grownCap_ge w _ _ _
  have hG63 : G ≤ 9223372036854775807 := by
    have := grownCap_le_maxLen w (c + 1) c 45 (by unfold maxLen; omega)
    rw [← hG] at this
    unfold maxLen at this
    omega
  obtain ⟨Z, hZ, hZl⟩ : ∃ Z : List Value, (flat recC (cs.take i)).toArray ++ Builtin.zeroCells (aggC Ch.zero).cells (c + 1 - i) ++ Builtin.zeroCells (aggC Ch.zero).cells (G - (c + 1)) = (flat recC (cs.take i) ++ Z).toArray ∧ Z.length = (G - i) * 5 := by
    refine ⟨(Builtin.zeroCells (aggC Ch.zero).cells (c + 1 - i)).toList ++ (Builtin.zeroCells (aggC Ch.zero).cells (G - (c + 1))).toList, ?_, ?_⟩
    · apply Array.ext'
      simp
    · have e5 : (aggC Ch.zero).cells.size = 5 := rfl
      simp [Builtin.zeroCells, e5]
      omega
  rw [← hG] at hrz
  rw [hZ] at hrz
  obtain ⟨W1, hW1⟩ : ∃ W1, W1 = w.drew.alloc (.cells (flat recC (cs.take i) ++ Z).toArray 45) := ⟨_, rfl⟩
  rw [← hW1] at hrz
  have hB1 : Blk W1 w.heap.size 45 (flat recC (cs.take i) ++ Z).toArray := by rw [hW1]; exact Blk.new_at rfl
  have hbe : Below w.heap.size w W1 := by rw [hW1]; exact ((Below.refl w.heap.size w).drew).alloc (Nat.le_refl _) _
  have hl1 : (flat recC (cs.take i) ++ Z).length = G * 5 := by rw [List.length_append, htl, hZl]; omega
  have hm1 : Nat.min 1 (c + 1 - i) = 1 := Nat.min_eq_left (by omega)
  have hcpA : ∀ (W : World), (∀ a, W.cell? a = W1.cell? a) → (∀ a, W.frozen? a = W1.frozen? a) → ∀ ty dc, (Builtin.copy_ #[28, 28] ty #[.slice (some ⟨w.heap.size, i * 5, none⟩) (c + 1 - i) dc, .slice (some ⟨vb, 0, none⟩) 1 1]).run Tryd.prog W = .ok (goInt 1) (W.setCells w.heap.size (i * 5) (recC x)) := fun W hWc hWf ty dc => by
    refine run_copy_rec W _ _ ty 45 w.heap.size (i * 5) (c + 1 - i) dc ⟨vb, 0, none⟩ 1 1 5 (recC x) Tryd.underlying28 hi5 ?_ ?_ ?_ ?_ (recC_one x) |>.trans ?_
    · rw [hm1]; rfl
    · intro j v hj
      rw [addr_add, Nat.zero_add, hWc, (hx.step hbe).cell]
      simpa using hj
    · intro j hj
      have h5 : j < 5 := hj
      rw [hWc, hB1.cell, Array.getElem?_eq_getElem (by rw [List.size_toArray, hl1]; omega)]
      rfl
    · intro j hj
      rw [hWf]
      exact hB1.frozen _
    · rw [hm1]; rfl
  obtain ⟨W2, hW2⟩ : ∃ W2, W2 = W1.setCells w.heap.size (i * 5) (recC x) := ⟨_, rfl⟩
  have hB2 : Blk W2 w.heap.size 45 (setList (flat recC (cs.take i) ++ Z) (i * 5) (recC x)).toArray := by rw [hW2]; exact Blk.setCells _ _ hB1
  have e5 : (recC x).length = 5 := rfl
  have hl2 : (setList (flat recC (cs.take i) ++ Z) (i * 5) (recC x)).length = G * 5 := by
    rw [setList_eq _ _ _ (by rw [hl1, e5]; omega)]
    simp only [List.length_append, List.length_take, List.length_drop, e5] at hl1 ⊢
    omega
  have hg2 : ∀ b, b < w.heap.size → W2.heap[b]? = w.heap[b]? := fun b hb => by rw [hW2, heap_setCells _ _ _ _ _ (by omega)]; exact hbe.block b hb
  have hm2 : Nat.min (c - i) (c - i) = c - i := Nat.min_self _
  have hcpB : ∀ (W : World), (∀ a, W.cell? a = W2.cell? a) → (∀ a, W.frozen? a = W2.frozen? a) → ∀ ty dc sc, (Builtin.copy_ #[28, 28] ty #[.slice (some ⟨w.heap.size, (i + 1) * 5, none⟩) (c - i) dc, .slice (some ⟨g, i * 5, none⟩) (c - i) sc]).run Tryd.prog W = .ok (goInt ((c - i : Nat) : Int)) (W.setCells w.heap.size ((i + 1) * 5) (flat recC (cs.drop i))) := fun W hWc hWf ty dc sc => by
    refine run_copy_rec W _ _ ty 45 w.heap.size ((i + 1) * 5) (c - i) dc ⟨g, i * 5, none⟩ (c - i) sc 5 (flat recC (cs.drop i)) Tryd.underlying28 hi5 ?_ ?_ ?_ ?_ (flat_one recC_one _) |>.trans ?_
    · rw [hm2]; exact hdl
    · intro j v hj
      rw [addr_add, hWc, World.cell?_of_block (w := w) (hg2 g hgl)]
      rw [← flat_drop recC_length, List.getElem?_drop] at hj
      exact hsrc _ v hj
    · intro j hj
      rw [hWc, hB2.cell, Array.getElem?_eq_getElem (by rw [List.size_toArray, hl2]; omega)]
      rfl
    · intro j hj
      rw [hWf]
      exact hB2.frozen _
    · rw [hm2]
  have HE : ∀ W3 : World, Blk W3 w.heap.size 45 (setList (setList (flat recC (cs.take i) ++ Z) (i * 5) (recC x)) ((i + 1) * 5) (flat recC (cs.drop i))).toArray → Below w.heap.size w W3 → InsOk lo g c (cs.take i ++ [x] ++ cs.drop i) w (.returned (.slice (some ⟨w.heap.size, 0, none⟩) (c + 1) G)) W3 := by
    intro W3 hB3 hb3
    have e1 : setList (setList (flat recC (cs.take i) ++ Z) (i * 5) (recC x)) ((i + 1) * 5) (flat recC (cs.drop i)) = flat recC (cs.take i ++ [x] ++ cs.drop i) ++ (setList (flat recC (cs.take i) ++ Z) (i * 5) (recC x)).drop ((c + 1) * 5) := by
      rw [setList_eq _ _ _ (by rw [hdl, hl2]; omega), hdl, show (i + 1) * 5 + (c - i) * 5 = (c + 1) * 5 by omega]
      have : (setList (flat recC (cs.take i) ++ Z) (i * 5) (recC x)).take ((i + 1) * 5) = flat recC (cs.take i) ++ recC x := by
        rw [setList_eq _ _ _ (by rw [hl1, e5]; omega), e5, ← htl, List.take_left, show (i + 1) * 5 = (flat recC (cs.take i) ++ recC x).length by rw [List.length_append, htl, e5]; omega, List.take_left]
      rw [this, flat_append, flat_append]
      simp [flat]
    rw [e1] at hB3
    have hl3 : (flat recC (cs.take i ++ [x] ++ cs.drop i)).length = (c + 1) * 5 := by
      rw [flat_length recC_length]
      simp
      omega
    refine ⟨_, G, rfl, blk_own hB3 hl3 ?_ hGn (by unfold maxLen; omega) hlo, ?_⟩
    · rw [List.length_append, hl3, List.length_drop, hl2]; omega
    · exact ⟨hb3.os, hb3.tape, hb3.output, hb3.size, fun k hk _ => hb3.block k hk⟩
  have HB2 := Lib.hid hB2
  have HBE := Lib.hid hbe
  have hin : ((i : Int) == (c : Int)) = false := by simp; omega
  have hi0 : (0 : Int) ≤ (i : Int) + 1 := by omega
  have hi1 : (i : Int) ≤ (c : Int) + 1 := by omega
  have hi2 : (i : Int) ≤ (c : Int) := by omega
  have hit : ((i : Int) + 1).toNat = i + 1 := by omega
  have hw1 : IntKind.i64.wrap ((i : Int) + 1) = (i : Int) + 1 := by rw [IntKind.wrap_i64]; omega
  have hin2 : i ≤ c := by omega
  have hin3 : (i : Int) + 1 ≤ (c : Int) + 1 := by omega
  have hin4 : i + 1 ≤ c + 1 := by omega
  have hGi : (G = i) = False := by simp; omega
  have hGim : (G = i + 1) = False := by simp; omega
  have hci : (c = i) = False := by simp; omega
  clear hi5 hj0 hy0 hy1 hy2 hB hlen hfl hsrc htl hdl hold hik hkk hG hZ hZl hB1 hl1 hm1 hB2 e5 hl2 hg2 hm2 h hx hbe hroom hnc
  subst hW1
  have hE1 : ∀ a, ((w.alloc (.cells (flat recC (cs.take i) ++ Z).toArray 45)).drew).cell? a = (w.drew.alloc (.cells (flat recC (cs.take i) ++ Z).toArray 45)).cell? a := fun a => rfl
  have hE2 : ∀ a, ((w.alloc (.cells (flat recC (cs.take i) ++ Z).toArray 45)).drew).frozen? a = (w.drew.alloc (.cells (flat recC (cs.take i) ++ Z).toArray 45)).frozen? a := fun a => rfl
  go_enter Tryd.func34, Tryd.ntmps34
  go_wp2_with (first
    | (at_builtin; refine Lib.wpList_append_run _ rfl _ _ _ _ rfl _ _ rfl rfl _ _ (hrz _) ?_)
    | (at_builtin; refine wpList_copy_runI _ rfl _ _ 28 28 rfl _ _ rfl rfl (hcpA _ hE1 hE2 _ _) ?_))
  have k1 : Hid (Blk ((w.alloc (Obj.cells (flat recC (cs.take i) ++ Z).toArray 45)).drew.setCells w.heap.size (i * 5) (recC x)) w.heap.size 45 (setList (flat recC (cs.take i) ++ Z) (i * 5) (recC x)).toArray) := by
    have := HB2.out
    rw [hW2] at this
    exact this
  have k2 : ∀ a, ((w.alloc (Obj.cells (flat recC (cs.take i) ++ Z).toArray 45)).drew.setCells w.heap.size (i * 5) (recC x)).cell? a = W2.cell? a := fun a => by rw [hW2]; rfl
  have k3 : ∀ a, ((w.alloc (Obj.cells (flat recC (cs.take i) ++ Z).toArray 45)).drew.setCells w.heap.size (i * 5) (recC x)).frozen? a = W2.frozen? a := fun a => by rw [hW2]; rfl
  have k4 : Hid (But w.heap.size w ((w.alloc (Obj.cells (flat recC (cs.take i) ++ Z).toArray 45)).drew.setCells w.heap.size (i * 5) (recC x))) := But.setCells _ _ (But.of_below HBE.out)
  clear HB2 HBE hW2 hE1 hE2 hcpA hrz
  generalize (w.alloc (Obj.cells (flat recC (cs.take i) ++ Z).toArray 45)).drew.setCells w.heap.size (i * 5) (recC x) = w5 at *
  have hcp := hcpB w5.drew k2 k3
  have hfin : Hid (InsOk lo g c (cs.take i ++ [x] ++ cs.drop i) w (.returned (.slice (some ⟨w.heap.size, 0, none⟩) (c + 1) G)) (w5.drew.setCells w.heap.size ((i + 1) * 5) (flat recC (cs.drop i)))) := by
    refine HE _ (Blk.setCells _ _ (Blk.drew k1.out)) ?_
    exact (But.setCells _ _ (k4.out.step ((Below.refl _ _).drew))).below (Nat.le_refl _) (Nat.le_refl _)
  clear k1 k2 k3 k4 hcpB HE
  go_region_law (refine step_copy_runI rfl _ _ 28 28 rfl _ _ (by simp [Act.eval, Act.put]) (by simp [Act.eval, Act.put]) (hcp _ _ _) ?_)
  go_wp2_with fail
  go_ret
  exact hfin.out

theorem insertC_any (cs : List Ch) (x : Ch) (lo g n c i vb : Nat) (k : Int) (w : World) (h : w.ownsRow lo 45 5 (.slice (some ⟨g, 0, none⟩) n c) n (flat recC cs)) (hx : Blk w vb 45 (recC x).toArray) (hne : vb ≠ g) (hi : i ≤ n) (hz : (n + 1) * 56 ≤ reach) (hlo : lo ≤ w.heap.size) (hk : k = (i : Nat)) :
    Calls Tryd.prog 34 #[.slice (some ⟨g, 0, none⟩) n c, .int .i64 k, .slice (some ⟨vb, 0, none⟩) 1 1] w (InsOk lo g n (cs.take i ++ [x] ++ cs.drop i) w) := by
  subst hk
  rcases Nat.lt_or_ge i n with h1 | h1
  · rcases Nat.lt_or_ge c (n + 1) with h2 | h2
    · exact insert_grow cs x lo g n c i vb w h hx h1 h2 hz hlo
    · exact insert_shift cs x lo g n c i vb w h hx hne h1 h2
  · obtain rfl : i = n := by omega
    have hl : cs.length = i := by have := h.1; have := flat_length recC_length cs; omega
    have := insert_end cs x lo g i c vb w h hx hz hlo
    rw [List.take_of_length_le (by omega), List.drop_of_length_le (by omega), List.append_nil]
    exact this

end Go.Proofs.YtgcklgkhdokchaaDoor
