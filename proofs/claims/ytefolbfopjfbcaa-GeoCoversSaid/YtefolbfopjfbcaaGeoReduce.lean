/- The contract of geo.reduce. -/
import Derived.Test.YtefolbfopjfbcaaGeoCmp
import Derived.Test.YtefolbfopjfbcaaValMem
import Derived.Laws.OwnMore
namespace Go.Proofs.Ytefolbfopjfbcaa
open Go.RowKit

/-- the numbers from 1 to k -/
def upTo (k : Nat) : List Int := (List.range k).map fun j => ((j + 1 : Nat) : Int)
theorem upTo_len (k : Nat) : (upTo k).length = k := by simp [upTo]
theorem upTo_snoc (k : Nat) : upTo (k + 1) = upTo k ++ [((k + 1 : Nat) : Int)] := by unfold upTo; rw [List.range_succ, List.map_append]; rfl
theorem upTo_mem {k : Nat} {x : Int} (h : x ∈ upTo k) : ∃ j : Nat, j < k ∧ x = ((j + 1 : Nat) : Int) := by
  obtain ⟨j, hj, rfl⟩ := List.mem_map.1 h
  exact ⟨j, List.mem_range.1 hj, rfl⟩
theorem SRowI.of_own [Inhabited Ctx] {w : World} {base g n cap : Nat} {xs : List Int} (h : w.ownsRow base 3 1 (.slice (some ⟨g, 0, none⟩) n cap) n (flat recI xs)) : SRowI w g (tagFrom 0 xs) := by
  rcases h.2 with ⟨h', _⟩ | ⟨g', cap', cur, h', _, hg, _, _, _, htake⟩
  · simp at h'
  · simp only [Value.slice.injEq, Option.some.injEq, Addr.mk.injEq, and_true, true_and] at h'
    obtain ⟨rfl, rfl⟩ := h'
    have e : flat recTI (tagFrom 0 xs) = flat recI xs := by
      have : ∀ k, flat recTI (tagFrom k xs) = flat recI xs := by
        intro k
        clear hg htake h
        induction xs generalizing k with
        | nil => rfl
        | cons x r ih =>
          have e1 : flat recTI (tagFrom k (x :: r)) = recI x ++ flat recTI (tagFrom (k + 1) r) := rfl
          rw [e1, ih]; rfl
      exact this 0
    refine ⟨cur.toList.drop (n * 1), ?_⟩
    show w.heap[g]? = _
    rw [hg, e, ← htake, List.take_append_drop]
theorem info_int : (Try.prog.info? 3).map (fun i => (i.zero, i.size, i.bytes)) = some (some (.int .i64 0), 1, 8) := by kernel_rfl
theorem info_bool : (Try.prog.info? 4).map (fun i => (i.zero, i.size, i.bytes)) = some (some (.bool false), 1, 1) := by kernel_rfl
/-- what reduce hands back -/
def RedOk (A0 B : Int) (L : List Rg) (most : Nat) (w : World) (e : Ending) (w' : World) : Prop :=
  ∃ (A : Option Addr) (m c : Nat) (C : List Rg), e = .returned (.slice A m c) ∧ SR 2 recR w' A m c C ∧ RgOk A0 B C ∧ 1 ≤ m ∧ m ≤ most ∧ (∀ z, inR z L → inR z C) ∧ Below w.heap.size w w'
/-- the numbers that are put in order -/
structure OrI (w : World) (A : Option Addr) (n c k : Nat) (v : Value) (wr : World) : Prop where
  b0 : Blk wr w.heap.size 42 #[.slice A n c]
  own : wr.ownsRow (w.heap.size + 1) 3 1 v k (flat recI (upTo k))
  bel : Below w.heap.size w wr
theorem OrI.next {w wr w' : World} {A : Option Addr} {n c k : Nat} {v v' : Value} {o : Obj} (h : OrI w A n c k v wr) (hg : (wr.alloc o).grownBy w' v.ownBlock) (ho : w'.ownsRow (w.heap.size + 1) 3 1 v' (k + 1) (flat recI (upTo k) ++ recI ((k + 1 : Nat) : Int))) : OrI w A n c (k + 1) v' w' := by
  refine ⟨?_, ?_, ?_⟩
  · exact (h.b0.alloc o).grown hg fun e => own_ne h.own (by omega) e.symm
  · rw [upTo_snoc, flat_append]
    exact ho
  · exact (h.bel.alloc h.bel.size o).grown hg (by have := h.bel.size; simp; omega) fun q hq => by have := own_ge h.own q hq; omega

/-- a row of truth values -/
def bools (n : Nat) (F : Nat → Bool) : Array Value := ((List.range n).map fun j => Value.bool (F j)).toArray
theorem bools_made (n : Nat) : madeCells #[.bool false] n = bools n fun _ => false := by
  apply Array.ext'
  rw [toList_madeCells_one, bools]
  simp [List.map_const']
theorem bools_get {n j : Nat} (F : Nat → Bool) (h : j < n) : (bools n F)[j]? = some (.bool (F j)) := by simp [bools, h]
theorem bools_set {n x : Nat} {F G : Nat → Bool} (hx : G x = true) (h : ∀ j, j ≠ x → G j = F j) : (bools n F).setIfInBounds x (.bool true) = bools n G := by
  apply Array.ext
  · simp [bools]
  · intro j h1 h2
    have hj : j < n := by simpa [bools] using h2
    by_cases e : x = j
    · subst e
      simp [bools, hx]
    · simp [bools, e, h j (fun e' => e e'.symm)]
/-- which numbers are among the first q -/
def Fq (S : List (Int × Nat)) (q : Nat) (j : Nat) : Bool := decide ((j : Int) ∈ (S.take q).map Prod.fst)
theorem Fq_zero (S : List (Int × Nat)) : Fq S 0 = fun _ => false := by funext j; simp [Fq]
theorem Fq_next {S : List (Int × Nat)} {q x : Nat} {t : Nat} (h : S[q]? = some ((x : Int), t)) : Fq S (q + 1) x = true ∧ ∀ j, j ≠ x → Fq S (q + 1) j = Fq S q j := by
  have e : S.take (q + 1) = S.take q ++ [((x : Int), t)] := by rw [List.take_add_one, h]; rfl
  refine ⟨by simp [Fq, e], fun j hj => ?_⟩
  unfold Fq
  rw [e, List.map_append]
  have hne : (j : Int) ≠ (x : Int) := by omega
  simp [hne]
/-- the marks -/
structure MkI (w : World) (A : Option Addr) (n c g : Nat) (S : List (Int × Nat)) (gb q : Nat) (wr : World) : Prop where
  b0 : Blk wr w.heap.size 42 #[.slice A n c]
  row : ∀ (t : Nat) (x : Int × Nat), S[t]? = some x → wr.cell? ⟨g, t, none⟩ = some (.int .i64 x.1)
  bb : Blk wr gb 4 (bools n (Fq S q))
  hg : w.heap.size < gb
  ne : g ≠ gb
  bel : Below w.heap.size w wr
theorem MkI.next {w wr : World} {A : Option Addr} {n c g gb q x t : Nat} {S : List (Int × Nat)} (h : MkI w A n c g S gb q wr) (hx : S[q]? = some ((x : Int), t)) : MkI w A n c g S gb (q + 1) (wr.setCell ⟨gb, x, none⟩ (.bool true)) := by
  obtain ⟨h1, h2⟩ := Fq_next hx
  refine ⟨h.b0.far (by have := h.hg; show w.heap.size ≠ gb; omega) _, fun t y hy => ?_, ?_, h.hg, h.ne, h.bel.setCell (by have := h.hg; show w.heap.size ≤ gb; omega) _⟩
  · exact (World.cell?_of_block (w := wr) (a := ⟨g, t, none⟩) (Below.heap_setCell wr ⟨gb, x, none⟩ (.bool true) g h.ne)).trans (h.row t y hy)
  · have := h.bb.set_ x (.bool true)
    rw [bools_set h1 h2] at this
    exact this

theorem count_zero (t : Int) : ∀ (k a : Nat), t < (a : Int) → (List.range' a k).countP (fun j : Nat => decide ((j : Int) = t)) = 0
  | 0, _, _ => rfl
  | k + 1, a, h => by
    rw [List.range'_succ, List.countP_cons, count_zero t k (a + 1) (by omega)]
    have : ¬ ((a : Int) = t) := by omega
    simp [this]
theorem count_one (t : Int) : ∀ (k a : Nat), (List.range' a k).countP (fun j : Nat => decide ((j : Int) = t)) ≤ 1
  | 0, _ => by simp
  | k + 1, a => by
    rw [List.range'_succ, List.countP_cons]
    by_cases e : (a : Int) = t
    · rw [count_zero t k (a + 1) (by omega)]
      simp [e]
    · have := count_one t k (a + 1)
      simp [e]
      simpa using this
theorem countP_or {α : Type} (p q : α → Bool) : ∀ l : List α, l.countP (fun x => p x || q x) ≤ l.countP p + l.countP q
  | [] => by simp
  | a :: r => by
    have := countP_or p q r
    rw [List.countP_cons, List.countP_cons, List.countP_cons]
    cases p a <;> cases q a <;> simp <;> omega
theorem count_mem (a k : Nat) : ∀ T : List Int, (List.range' a k).countP (fun j : Nat => decide ((j : Int) ∈ T)) ≤ T.length
  | [] => by simp
  | t :: T => by
    have h1 := countP_or (fun j : Nat => decide ((j : Int) = t)) (fun j : Nat => decide ((j : Int) ∈ T)) (List.range' a k)
    have h2 := count_one t k a
    have h3 := count_mem a k T
    have e : (fun j : Nat => decide ((j : Int) ∈ t :: T)) = fun j : Nat => decide ((j : Int) = t) || decide ((j : Int) ∈ T) := by
      funext j
      simp
    rw [e, List.length_cons]
    omega
/-- the ranges that are joined -/
structure JrI (w : World) (A : Option Addr) (n c gb : Nat) (F : Nat → Bool) (A0 : Int) (L : List Rg) (i : Nat) (v : Value) (acc : List Rg) (wr : World) : Prop where
  b0 : Blk wr w.heap.size 42 #[.slice A n c]
  bb : Blk wr gb 4 (bools n F)
  own : wr.ownsRow (gb + 1) 46 2 v acc.length (flatR acc)
  jo : JoI A0 L F i acc
  hg : w.heap.size < gb
  bel : Below w.heap.size w wr
theorem JrI.step {w wr w' : World} {A : Option Addr} {n c gb i : Nat} {F : Nat → Bool} {A0 : Int} {L acc : List Rg} {v : Value} (h : JrI w A n c gb F A0 L i v acc wr) (hb : Below wr.heap.size wr w') : JrI w A n c gb F A0 L i v acc w' :=
  ⟨h.b0.step hb, h.bb.step hb, own_step h.own hb, h.jo, h.hg, h.bel.step' hb⟩
theorem JrI.add {w wr w' : World} {A : Option Addr} {n c gb i m : Nat} {F : Nat → Bool} {A0 B : Int} {L acc : List Rg} {v v' : Value} {x : Rg} {o : Obj} (h : JrI w A n c gb F A0 L i v acc wr) (hok : RgOk A0 B L) (hx : L[i]? = some x) (hF : F i = true)
    (hg : (wr.alloc o).grownBy w' v.ownBlock) (hm : m = acc.length) (ho : w'.ownsRow (gb + 1) 46 2 v' (m + 1) (flatR acc ++ recR x)) : JrI w A n c gb F A0 L (i + 1) v' (acc ++ [x]) w' := by
  subst hm
  have hgg := h.hg
  refine ⟨(h.b0.alloc o).grown hg fun e => own_ne h.own (by omega) e.symm, (h.bb.alloc o).grown hg fun e => own_ne h.own (by omega) e.symm, ?_, h.jo.add hok hx hF, h.hg, ?_⟩
  · rw [List.length_append, flatR_app]
    exact ho
  · exact (h.bel.alloc h.bel.size o).grown hg (by have := h.bel.size; simp; omega) fun q hq => by have := own_ge h.own q hq; omega
theorem JrI.join {w wr : World} {A : Option Addr} {n c gb i g cap m : Nat} {F : Nat → Bool} {A0 B : Int} {L d : List Rg} {r x : Rg} (h : JrI w A n c gb F A0 L i (.slice (some ⟨g, 0, none⟩) m cap) (d ++ [r]) wr) (hm : m = d.length + 1) (hok : RgOk A0 B L) (hx : L[i]? = some x) (hF : F i = false) :
    JrI w A n c gb F A0 L (i + 1) (.slice (some ⟨g, 0, none⟩) m cap) (d ++ [(r.1, x.2)]) (wr.setCell ⟨g, d.length * 2 + 1, none⟩ (.int .i64 x.2)) := by
  have hgg := h.hg
  have hge := own_ge h.own g rfl
  have e1 : (d ++ [r]).length = m := by simp [hm]
  have e2 : (d ++ [(r.1, x.2)]).length = m := by simp [hm]
  refine ⟨h.b0.far (by show w.heap.size ≠ g; omega) _, h.bb.far (by show gb ≠ g; omega) _, ?_, h.jo.join hok hx hF, h.hg, h.bel.setCell (by show w.heap.size ≤ g; omega) _⟩
  have ho := h.own
  rw [e1] at ho
  rw [e2]
  exact own_last ho x.2

set_option maxRecDepth 100000 in
set_option maxHeartbeats 1000000 in
theorem reduce_any (L : List Rg) (A : Option Addr) (n c most : Nat) (A0 B : Int) (w : World) (hl : SR 2 recR w A n c L) (hok : RgOk A0 B L) (hA : 0 ≤ A0) (hB : B ≤ 4294967296) (hm : 1 ≤ most) (hn : 1 ≤ n) :
    Calls Try.prog 39 #[.slice A n c, .int .i64 most] w (RedOk A0 B L most w) := by
  have H := Lib.hid hl
  have HO := Lib.hid hok
  have hnz : n ≤ 4294967296 := by have h1 := hok.len_le; have h2 := hl.ln; omega
  have HNL := Lib.hid hl.ln
  clear hl hok
  have B0 : Hid (Blk (w.alloc (Obj.cells #[.slice A n c] 42)) w.heap.size 42 #[.slice A n c]) := Blk.new_at rfl
  have BE : Hid (Below w.heap.size w (w.alloc (Obj.cells #[.slice A n c] 42))) := (Below.refl _ _).alloc (Nat.le_refl _) _
  go_enter Try.func39, Try.ntmps39
  go_upto_region 1 with fail
  change (Code.region 1 _ _).wp _ _ _ (w.alloc (Obj.cells #[.slice A n c] 42))
  generalize w.alloc (Obj.cells #[.slice A n c] 42) = wa at *
  have k0 := B0.out.cell 0
  simp at k0
  by_cases hle : n ≤ most
  · go_wp2_with fail
    go_ret
    exact ⟨A, n, c, L, rfl, H.out.step BE.out, HO.out, hn, hle, fun z hz => hz, BE.out⟩
  obtain ⟨i0, hi0, hy0, hy1, hy2⟩ := info_parts info_int
  have J0 : Hid (OrI w A n c 0 (.slice none 0 0) wa) := ⟨B0.out, own_nil _ _ _ _, BE.out⟩
  go_upto_region 5 with fail
  clear k0 B0 BE
  go_loopw [5, 6] (fun v5 v6 wr => ∃ k : Nat, k + 1 ≤ n ∧ v6 = .int .i64 ((k + 1 : Nat) : Int) ∧ OrI w A n c k v5 wr) (fun _ v6 _ => n - (intOf v6).toNat)
  case atStart => exact ⟨0, hn, rfl, J0.out⟩
  case round =>
    obtain ⟨k, hk, rfl, I⟩ := hrel
    clear J0
    have k0 := I.b0.cell 0
    simp at k0
    obtain ⟨Av, cv, hv, hlc⟩ := own_slice I.own
    subst hv
    obtain ⟨i, hi⟩ : ∃ i, i = k + 1 := ⟨_, rfl⟩
    have HI := Lib.hid hi
    rw [← hi] at hk ⊢
    by_cases hlt : i < n
    · have HR : Hid (Reads (wr.alloc (Obj.cells #[.int .i64 (i : Int)] 3)) (wr.heap.size + 1) 1 (some ⟨wr.heap.size, 0, none⟩) 1 (recI (i : Int))) := ⟨rfl, fun _ => ⟨_, rfl, by show wr.heap.size < wr.heap.size + 1; omega, fun j' u hu => news_at wr 3 (recI (i : Int)) j' u hu⟩⟩
      have H1 : Hid (∀ u ∈ recI (i : Int), u.oneCell' = true) := Lib.hid (by intro u hu; simp [recI] at hu; subst hu; rfl)
      have OW : Hid ((wr.alloc (Obj.cells #[.int .i64 (i : Int)] 3)).ownsRow (w.heap.size + 1) 3 1 (.slice Av k cv) k (flat recI (upTo k))) := own_step I.own ((Below.refl _ _).alloc (Nat.le_refl _) _)
      have H63 : Hid (k + 1 ≤ maxLen) := by unfold Hid maxLen; omega
      have HBT : Hid ((k + 1) * 8 ≤ 140737488355328) := by unfold Hid; omega
      have HBB : Hid (w.heap.size + 1 ≤ (wr.alloc (Obj.cells #[.int .i64 (i : Int)] 3)).heap.size) := by have := I.bel.size; simp [Hid]; omega
      have HII := Lib.hid I
      have i1 : (1 : Int) ≤ (i : Int) := by omega
      have i2 : (i : Int) < (n : Int) := by omega
      have nz : (n : Int) ≤ 4294967296 := by omega
      clear I hi hlc
      go_wp2_with (at_builtin; (refine wpList_append_any _ rfl _ _ 72 rfl (w.heap.size + 1) 3 i0 (.int .i64 0) 1 8 Try.underlying72 hi0 hy0 hy1 hy2 rfl (by decide) (.slice Av k cv) k (flat recI (upTo k)) rfl OW.out (wr.heap.size + 1) (some ⟨wr.heap.size, 0, none⟩) 1 1 (recI (i : Int)) rfl HR.out H1.out H63.out HBT.out HBB.out ?_))
      intro v' w' ho hg hat
      have HN' := Lib.hid (HII.out.next hg (by have h := ho; rw [HI.out] at h; exact h))
      clear ho hg hat HII HR H1 OW k0
      go_wp2_with fail
      go_roundw
      case rel => exact ⟨i, by omega, by go_num, by rw [HI.out]; exact HN'.out⟩
      case measure => simp [intOf]; omega
    · have hki : k + 1 = n := by have := HI.out; omega
      have hk1 : 1 ≤ k := by omega
      have hge := own_ge I.own
      rcases I.own.2 with ⟨h', _⟩ | ⟨g, cap, cur, hv, hrest⟩
      · simp at h'
        omega
      clear hrest
      injection hv with hv1 _ hv2
      clear cur
      subst hv1 hv2
      have hgw : w.heap.size + 1 ≤ g := hge g rfl
      have hS : Calls Try.prog 47 #[.slice (some ⟨g, 0, none⟩) k cv, .func (.func 48) #[] #[.pointer (some ⟨w.heap.size, 0, none⟩)]] wr (@IsDoneI ⟨⟨w.heap.size, L⟩⟩ g wr [] (tagFrom 0 (upTo k)) []) :=
        @sortStableI_any ⟨⟨w.heap.size, L⟩⟩ (tagFrom 0 (upTo k)) g k cv wr (@SRowI.of_own ⟨⟨w.heap.size, L⟩⟩ _ _ _ _ _ _ I.own) (by rw [tagFrom_length, upTo_len]) (by unfold reach; omega) (tagFrom_tagged _ _)
          (cmpOk_gap L A n c w.heap.size g wr _ (H.out.step I.bel) (I.b0.cell 0) (fun r hr => by have h1 := HO.out.lo r hr; have h2 := HO.out.hi r hr; have h3 := HO.out.ne r hr; omega) hnz (by omega)
            (fun b off e => by obtain ⟨b', off', e', hb', _⟩ := H.out.el (by omega); rw [e] at e'; injection e' with e'; injection e' with e'; omega)
            (fun x hx => by
              have h1 : x.1 ∈ upTo k := by rw [← tagFrom_map (upTo k) 0]; exact List.mem_map_of_mem hx
              obtain ⟨j, hj, e⟩ := upTo_mem h1
              exact ⟨j, by omega, e⟩))
      have HS := Lib.hid hS
      have HII := Lib.hid I
      have i1 : (1 : Int) ≤ (i : Int) := by omega
      have HKI := Lib.hid hki
      have hcv : k ≤ cv := hlc
      obtain ⟨m1, hm1⟩ : ∃ m1, most = m1 + 1 := ⟨most - 1, by omega⟩
      have HM1 := Lib.hid hm1
      have mq : (most : Int) - 1 = (m1 : Int) := by omega
      have mc : (m1 : Int) ≤ (cv : Int) := by omega
      have mc' : m1 ≤ cv := by omega
      have m0 : (0 : Int) ≤ (m1 : Int) := by omega
      have mp : (1 : Int) ≤ (most : Int) := by omega
      have mz : (most : Int) ≤ 4294967296 := by omega
      have HMK : Hid (m1 + 1 ≤ k) := by unfold Hid; omega
      clear hS I hge hlc hki hi hm1
      go_upto_region 8 with fail
      go_wp2_with fail
      refine HS.out.mono ?_
      rintro e w2 ⟨rfl, S, hs, hi⟩
      obtain ⟨j0, hj0, hz0, hz1, hz2⟩ := info_parts info_bool
      have hmk := run_make_rowN (P := Try.prog) 75 4 j0 (.bool false) Try.underlying75 hj0 hz0 n (by rw [hz2]; omega) (by omega)
      rw [hz1, Nat.mul_one] at hmk
      have hsl : S.length = k := by rw [hs.perm.length_eq, tagFrom_length, upTo_len]
      have hb2 : Below w.heap.size w w2 := HII.out.bel.trans (hi.but.below HII.out.bel.size (by omega))
      have hg2 : g < w2.heap.size := by
        letI : Inhabited Ctx := ⟨⟨w.heap.size, L⟩⟩
        exact hi.row.lt
      have M0 : Hid (MkI w A n c g S w2.heap.size 0 (w2.alloc (.cells (madeCells #[.bool false] n) 4))) := ⟨(HII.out.b0.but hi.but (by omega)).alloc _, fun t x hx => by
        have h1 : w2.cell? ⟨g, t, none⟩ = some (.int .i64 x.1) := by
          letI : Inhabited Ctx := ⟨⟨w.heap.size, L⟩⟩
          exact hi.row.cell (j := t) (p := x) (by simpa using hx) 0 _ rfl
        exact (((Below.refl _ _).alloc (Nat.le_refl _) _).cell (p := ⟨g, t, none⟩) hg2).trans h1, by rw [Fq_zero, ← bools_made]; exact Blk.new_at rfl, by have := hb2.size; have := HII.out.b0.lt; have := hi.but.size; omega, by omega, hb2.alloc hb2.size _⟩
      have k0 := (HII.out.b0.but hi.but (by omega)).cell 0
      simp at k0
      have HSL := Lib.hid hsl
      have HSS := Lib.hid hs
      have HHI := Lib.hid hi
      have nz : (n : Int) ≤ 4294967296 := by omega
      have n0 : (0 : Int) ≤ (n : Int) := by omega
      clear hs hi hsl hb2 HII hz0 hz1 hz2 hj0
      go_upto_region 11 with fail
      generalize w2.alloc (.cells (madeCells #[.bool false] n) 4) = w3 at *
      clear k0 hmk hg2 HHI HS
      generalize w2.heap.size = gb at *
      go_loopw [38] (fun v38 wq => ∃ q : Nat, q ≤ m1 ∧ v38 = .int .i64 q ∧ MkI w A n c g S gb q wq) (fun v38 _ => m1 - (intOf v38).toNat)
      case atStart => exact ⟨0, Nat.zero_le _, rfl, M0.out⟩
      case round =>
        obtain ⟨q, hq, rfl, I⟩ := hrel
        clear M0
        by_cases hlq : q < m1
        · obtain ⟨⟨xi, tg⟩, hx⟩ : ∃ x, S[q]? = some x := ⟨_, List.getElem?_eq_getElem (by have := HSL.out; have := HMK.out; omega)⟩
          have hmem : xi ∈ upTo k := by
            have h1 := HSS.out.perm.subset (List.mem_of_getElem? hx)
            rw [← tagFrom_map (upTo k) 0]
            exact List.mem_map_of_mem (f := Prod.fst) h1
          obtain ⟨j, hj, rfl⟩ := upTo_mem hmem
          obtain ⟨x, hxj⟩ : ∃ x, x = j + 1 := ⟨_, rfl⟩
          have hxn : x < n := by have := HKI.out; omega
          rw [← hxj] at hx
          clear hmem hj hxj
          have c1 := I.row q _ hx
          have c2 := I.bb.cell x
          rw [bools_get _ hxn] at c2
          have z2 := I.bb.frozen x
          have HN' := Lib.hid (I.next hx)
          have q0 : (0 : Int) ≤ (q : Int) := by omega
          have q1 : (q : Int) < (m1 : Int) := by omega
          have x0 : (0 : Int) ≤ (x : Int) := by omega
          have x1 : (x : Int) < (n : Int) := by omega
          simp only at c1
          clear I hx
          go_wp2_with fail
          go_roundw
          case rel => exact ⟨q + 1, by omega, by go_num, HN'.out⟩
          case measure => simp [intOf]; omega
        · obtain rfl : q = m1 := by omega
          obtain ⟨b, off, hA', hbb, hel⟩ := H.out.el (by omega)
          have hlen := HNL.out
          obtain ⟨⟨xa, xb⟩, hx0⟩ : ∃ x, L[0]? = some x := ⟨_, List.getElem?_eq_getElem (by omega)⟩
          have e0 := (I.bel.cell (p := ⟨b, off + 0 * 2 + 0, none⟩) hbb).trans (hel 0 _ hx0 0 _ rfl)
          have e1 := (I.bel.cell (p := ⟨b, off + 0 * 2 + 1, none⟩) hbb).trans (hel 0 _ hx0 1 _ rfl)
          simp at e0 e1
          subst hA'
          have k0 := I.b0.cell 0
          simp at k0
          have n1 : (0 : Int) < (n : Int) := by omega
          have JO := Lib.hid (JoI.start (bs := Fq S q) HO.out hx0)
          have HEL := Lib.hid hel
          have HII := Lib.hid I
          have HLE := Lib.hid hlen
          clear I hx0 hel hlen hlq hq
          go_upto_region 17 with fail
          have hgbl := HII.out.bb.lt
          have J0 : Hid (JrI w (some ⟨b, off, none⟩) n c gb (Fq S q) A0 L 1 (.slice (some ⟨wr.heap.size, 0, none⟩) 1 1) [(xa, xb)] (wr.alloc (Obj.cells #[.int .i64 xa, .int .i64 xb] 46))) :=
            ⟨HII.out.b0.alloc _, HII.out.bb.alloc _, ⟨rfl, .inr ⟨wr.heap.size, 1, #[.int .i64 xa, .int .i64 xb], rfl, hgbl, Blk.new_at rfl, Nat.le_refl _, by decide, rfl, rfl⟩⟩, JO.out, HII.out.hg, HII.out.bel.alloc HII.out.bel.size _⟩
          obtain ⟨i0', hi0', hy0', hy1', hy2'⟩ := info_parts info_range
          clear e0 e1 k0 hgbl HII JO mq mc mc' m0 mp mz
          go_loopw [10, 11] (fun v10 v11 wr => ∃ (i : Nat) (acc : List Rg), i ≤ n ∧ v11 = .int .i64 i ∧ JrI w (some ⟨b, off, none⟩) n c gb (Fq S q) A0 L i v10 acc wr) (fun _ v11 _ => n - (intOf v11).toNat)
          case atStart => exact ⟨1, _, hn, rfl, J0.out⟩
          case round =>
            obtain ⟨i, acc, hi, rfl, J⟩ := hrel
            clear J0
            have k0 := J.b0.cell 0
            simp at k0
            have ipos := J.jo.pos
            by_cases hlt : i < n
            · obtain ⟨⟨ua, ub⟩, hu⟩ : ∃ x, L[i]? = some x := ⟨_, List.getElem?_eq_getElem (by have := HLE.out; omega)⟩
              have f0 := (J.bel.cell (p := ⟨b, off + i * 2 + 0, none⟩) hbb).trans (HEL.out i _ hu 0 _ rfl)
              have f1 := (J.bel.cell (p := ⟨b, off + i * 2 + 1, none⟩) hbb).trans (HEL.out i _ hu 1 _ rfl)
              rw [Nat.add_zero] at f0
              have cb := J.bb.cell i
              rw [bools_get _ hlt] at cb
              obtain ⟨d, ⟨ra, rb⟩, x', hacc, hx', hrx, hok'⟩ := J.jo.last
              have hal : acc.length = d.length + 1 := by rw [hacc]; simp
              obtain ⟨m, hm⟩ : ∃ m, m = acc.length := ⟨_, rfl⟩
              have ho := J.own
              rw [← hm] at ho
              rcases ho.2 with ⟨_, h'⟩ | ⟨g9, cap, cur, hv, hrest⟩
              · omega
              clear hrest
              subst hv
              clear cur
              have hgl : g9 < wr.heap.size := own_lt ho rfl
              have HJ := Lib.hid J
              have HU := Lib.hid hu
              have HMM := Lib.hid hm
              have hz1 := hok'.len_le
              have hmz : m ≤ 4294967297 := by
                have h1 := HO.out.hi x' (List.mem_of_getElem? hx')
                omega
              have i1 : (0 : Int) ≤ (i : Int) := by omega
              have i2 : (i : Int) < (n : Int) := by omega
              have iz : (1 : Int) ≤ (i : Int) := by omega
              cases hF : Fq S q i
              · rw [hF] at cb
                obtain ⟨md, hmd⟩ : ∃ md, md = d.length := ⟨_, rfl⟩
                have hm1 : m = md + 1 := by omega
                have HMD := Lib.hid hmd
                subst hm1
                have hLm : acc[md]? = some (ra, rb) := by rw [hacc, hmd, List.getElem?_append_right (Nat.le_refl _)]; simp
                have c9 : wr.cell? ⟨g9, md * 2 + 1, none⟩ = some (.int .i64 rb) := by
                  have := ho.cells (g := g9) rfl (md * 2 + 1) (.int .i64 rb) (flat_get recR_length hLm (j := 1) rfl)
                  simpa [addr_add] using this
                have z9 := own_frozen ho (md * 2 + 1)
                have hJ2 : JrI w (some ⟨b, off, none⟩) n c gb (Fq S q) A0 L (i + 1) (.slice (some ⟨g9, 0, none⟩) (md + 1) cap) (d ++ [(ra, ub)]) (wr.setCell ⟨g9, md * 2 + 1, none⟩ (.int .i64 ub)).drew := by
                  have h1 := HJ.out
                  rw [hacc] at h1
                  have h2 := h1.join (by omega) HO.out HU.out hF
                  rw [← hmd] at h2
                  exact h2.step ((Below.refl _ _).drew)
                have HJ2 := Lib.hid hJ2
                have md0 : (0 : Int) ≤ (md : Int) := by omega
                clear J hu ho hm hal hacc hx' hrx hok' hz1 hF hLm hmd hJ2
                go_upto_region 21 with fail
                go_region
                go_wp2_with fail
                go_roundw
                case rel => exact ⟨i + 1, _, by omega, by go_num, HJ2.out⟩
                case measure => simp [intOf]; omega
              · rw [hF] at cb
                have HFT := Lib.hid hF
                have OW : Hid ((wr.alloc (Obj.cells #[.int .i64 ua, .int .i64 ub] 46)).ownsRow (gb + 1) 46 2 (.slice (some ⟨g9, 0, none⟩) m cap) m (flatR acc)) := own_step ho ((Below.refl _ _).alloc (Nat.le_refl _) _)
                have HR : Hid (Reads (wr.alloc (Obj.cells #[.int .i64 ua, .int .i64 ub] 46)) (wr.heap.size + 1) 2 (some ⟨wr.heap.size, 0, none⟩) 1 (recR (ua, ub))) := ⟨rfl, fun _ => ⟨_, rfl, by show wr.heap.size < wr.heap.size + 1; omega, fun j' u hu => news_at wr 46 (recR (ua, ub)) j' u hu⟩⟩
                have H1 : Hid (∀ u ∈ recR (ua, ub), u.oneCell' = true) := Lib.hid (by intro u hu; simp [recR] at hu; rcases hu with rfl | rfl <;> rfl)
                have H63 : Hid (m + 1 ≤ maxLen) := by unfold Hid maxLen; omega
                have HBT : Hid ((m + 1) * 16 ≤ 140737488355328) := by unfold Hid; omega
                have HBB : Hid (gb + 1 ≤ (wr.alloc (Obj.cells #[.int .i64 ua, .int .i64 ub] 46)).heap.size) := by have := J.bb.lt; simp [Hid]; omega
                clear J hu ho hm hal hacc hx' hrx hok' hz1 hF
                go_wp2_with (at_builtin; (refine wpList_append_any _ rfl _ _ 42 rfl (gb + 1) 46 i0' (.agg #[.int .i64 0, .int .i64 0]) 2 16 Try.underlying42 hi0' hy0' hy1' hy2' rfl (by decide) (.slice (some ⟨g9, 0, none⟩) m cap) m (flatR acc) rfl OW.out (wr.heap.size + 1) (some ⟨wr.heap.size, 0, none⟩) 1 1 (recR (ua, ub)) rfl HR.out H1.out H63.out HBT.out HBB.out ?_))
                intro v' w' ho hg hat
                have HN' := Lib.hid (HJ.out.add HO.out HU.out HFT.out hg HMM.out ho)
                clear ho hg hat HJ HR H1 OW k0 f0 f1 cb
                go_wp2_with fail
                go_roundw
                case rel => exact ⟨i + 1, _, by omega, by go_num, HN'.out⟩
                case measure => simp [intOf]; omega
            · obtain rfl : i = n := by omega
              obtain ⟨A', c', hv, hsr⟩ := SR.of_own recR_length J.own rfl
              obtain ⟨d, r, x', hacc, hx', hrx, hok'⟩ := J.jo.last
              have hcnt := count_mem 1 (i - 1) ((S.take q).map Prod.fst)
              have hlq : ((S.take q).map Prod.fst).length ≤ q := by rw [List.length_map, List.length_take]; omega
              have hcl := J.jo.len
              have hF : Hid (acc.length ≤ most) := by
                have h1 : (List.range' 1 (i - 1)).countP (Fq S q) ≤ ((S.take q).map Prod.fst).length := hcnt
                have := HM1.out
                unfold Hid
                omega
              have hp : Hid (1 ≤ acc.length) := by unfold Hid; omega
              have hRK : Hid (RgOk A0 B acc) := hok'.more (by have := HO.out.hi x' (List.mem_of_getElem? hx'); omega)
              have HC : Hid (∀ z, inR z L → inR z acc) := fun z hz => J.jo.cov z (by rw [List.take_of_length_le (by have := HLE.out; omega)]; exact hz)
              have HJ := Lib.hid J
              have HSR := Lib.hid hsr
              subst hv
              clear J hsr hcnt hlq hcl hacc hx' hrx hok'
              go_wp2_with fail
              go_ret
              exact ⟨A', _, c', acc, rfl, HSR.out, hRK.out, hp.out, hF.out, HC.out, HJ.out.bel⟩

end Go.Proofs.Ytefolbfopjfbcaa
