/- The reference's Sort. -/
import Derived.Test.YtckeccfbadlhhaaDoorValSort
import Derived.Test.YtckeccfbadlhhaaDoorValRefCmp
import Derived.Test.YtckeccfbadlhhaaDoorValParts
namespace Go.Proofs.YtckeccfbadlhhaaDoor
open Go.RowKit

theorem insert_sorted {α : Type} {cm : α → α → Int} (H : Ordered cm) {L S1 S2 : List (α × Nat)} {x : α × Nat} (hS : Sorted cm L (S1 ++ S2)) (ht : ∀ s ∈ L, s.2 < x.2) (h1 : ∀ s ∈ S1, cm s.1 x.1 ≤ 0) (h2 : ∀ s, S2[0]? = some s → ¬ cm s.1 x.1 ≤ 0) : Sorted cm (L ++ [x]) (S1 ++ x :: S2) := by
  refine ⟨List.perm_middle.trans ((List.Perm.cons x hS.perm).trans (List.perm_append_singleton x L).symm), ?_⟩
  have hp := List.pairwise_append.1 hS.ord
  refine List.pairwise_append.2 ⟨hp.1, List.pairwise_cons.2 ⟨fun s hs => ?_, hp.2.1⟩, fun s hs z hz => ?_⟩
  · obtain ⟨k, hk⟩ := List.getElem?_of_mem hs
    obtain ⟨s0, h0⟩ : ∃ s0, S2[0]? = some s0 := ⟨_, List.getElem?_eq_getElem (by have := (List.getElem?_eq_some_iff.1 hk).1; omega)⟩
    have q1 := h2 s0 h0
    have q2 := H.anti s0.1 x.1
    have q3 := at_le H hp.2.1 (Nat.zero_le k) h0 hk
    exact .inl (cm_lt_le H (y := s0.1) (by omega) q3)
  · rcases List.mem_cons.1 hz with rfl | hz
    · have q1 := h1 s hs
      have q2 := ht s (hS.perm.mem_iff.1 (by simp [hs]))
      unfold RT
      omega
    · exact hp.2.2 s hs z hz

theorem own_less {w : World} {base base' : Nat} {e : TypeId} {size n : Nat} {v : Value} {xs : List Value} (h : w.ownsRow base e size v n xs) (hb : base' ≤ base) : w.ownsRow base' e size v n xs := by
  refine ⟨h.1, ?_⟩
  rcases h.2 with h2 | ⟨g, cap, cur, hv, hg, hr⟩
  · exact .inl h2
  · exact .inr ⟨g, cap, cur, hv, by omega, hr⟩

/-- the rounds of the reference's Sort -/
structure RsInv (w : World) (ps : List PV) (i : Nat) (S : List (PV × Nat)) (v : Value) (wr : World) : Prop where
  own : wr.ownsRow w.heap.size 25 5 v i (flat recV (S.map Prod.fst))
  so : Sorted (fun p q : PV => cmpV p.2 q.2) ((tagFrom 0 ps).take i) S
  bel : Below w.heap.size w wr
  z : i = 0 → v = .slice none 0 0
theorem RsInv.step {w wr w' : World} {ps : List PV} {i : Nat} {S : List (PV × Nat)} {v : Value} (h : RsInv w ps i S v wr) (hb : Below wr.heap.size wr w') : RsInv w ps i S v w' := ⟨own_step h.own hb, h.so, h.bel.step' hb, h.z⟩

theorem flat_take {α : Type} {rec : α → List Value} {s : Nat} (hs : ∀ a, (rec a).length = s) : ∀ (xs : List α) (k : Nat), (flat rec xs).take (k * s) = flat rec (xs.take k) := by
  intro xs
  induction xs with
  | nil => intro k; simp [flat]
  | cons a l ih =>
    intro k
    cases k with
    | zero => simp [flat]
    | succ k =>
      have e : ∀ (y : α) (t : List α), flat rec (y :: t) = rec y ++ flat rec t := fun _ _ => rfl
      rw [List.take_succ_cons, e, e, ← ih k, show (k + 1) * s = (rec a).length + k * s by rw [hs, Nat.add_mul]; omega, List.take_length_add_append]
theorem flat_drop {α : Type} {rec : α → List Value} {s : Nat} (hs : ∀ a, (rec a).length = s) : ∀ (xs : List α) (k : Nat), (flat rec xs).drop (k * s) = flat rec (xs.drop k) := by
  intro xs
  induction xs with
  | nil => intro k; simp [flat]
  | cons a l ih =>
    intro k
    cases k with
    | zero => simp [flat]
    | succ k =>
      have e : ∀ (y : α) (t : List α), flat rec (y :: t) = rec y ++ flat rec t := fun _ _ => rfl
      rw [List.drop_succ_cons, e, ← ih k, show (k + 1) * s = (rec a).length + k * s by rw [hs, Nat.add_mul]; omega, List.drop_length_add_append]
theorem Reads.take {w : World} {B size n : Nat} {A : Option Addr} {xs : List Value} (h : Reads w B size A n xs) {k : Nat} (hk : k ≤ n) : Reads w B size A k (xs.take (k * size)) := by
  refine ⟨by rw [List.length_take, h.1]; exact Nat.min_eq_left (Nat.mul_le_mul_right _ hk), fun hn => ?_⟩
  obtain ⟨ad, rfl, hb, hc⟩ := h.2 (by omega)
  refine ⟨ad, rfl, hb, fun j u hu => hc j u ?_⟩
  rw [List.getElem?_take] at hu
  split at hu
  · exact hu
  · cases hu
theorem RsInv.at {w wr : World} {ps : List PV} {i : Nat} {S : List (PV × Nat)} {B : Option Addr} {cb : Nat} (h : RsInv w ps i S (.slice B i cb) wr) {k : Nat} {s : PV × Nat} (hs : S[k]? = some s) : ∃ g, B = some ⟨g, 0, none⟩ ∧ g < wr.heap.size ∧ VAt wr g (k * 5) s.1.1 := by
  have hl : (S.map Prod.fst).length = i := by
    have := flat_length recV_length (S.map Prod.fst)
    rw [h.own.1] at this
    omega
  have hk := (List.getElem?_eq_some_iff.1 hs).1
  rcases h.own.2 with ⟨h1, h2⟩ | ⟨g, cap, cur, hv, _, hh, hnc, _⟩
  · simp at hl; omega
  · cases hv
    refine ⟨g, rfl, own_lt h.own rfl, vat_of fun j v hj => ?_⟩
    have := h.own.cells (g := g) rfl (k * 5 + j) v (flat_get recV_length (by rw [List.getElem?_map, hs]; rfl) hj)
    rw [addr_add, Nat.zero_add] at this
    exact this
/-- the row 'next' of one round -/
structure NxInv (wx : World) (v : Value) (n : Nat) (xs : List PV) (wr : World) : Prop where
  own : wr.ownsRow wx.heap.size 25 5 v n (flat recV xs)
  bel : Below wx.heap.size wx wr
theorem NxInv.next {wx : World} {v v' : Value} {n m n' : Nat} {xs ys : List PV} {wr w' : World} {news : List Value} (h : NxInv wx v n xs wr) (hn : news = flat recV ys) (hn' : n' = m) (ho : w'.ownsRow wx.heap.size 25 5 v' m (flat recV xs ++ news)) (hg : wr.grownBy w' v.ownBlock) : NxInv wx v' n' (xs ++ ys) w' :=
  ⟨by rw [flat_append, ← hn, hn']; exact ho, h.bel.grown hg h.bel.size (fun q hq => own_ge h.own q hq)⟩
theorem NxInv.done {w wx : World} {ps : List PV} {v0 v : Value} {i m : Nat} {S S' : List (PV × Nat)} {xs : List PV} {wr : World} (h : NxInv wx v m xs wr) (I : RsInv w ps i S v0 wx) (hm : m = i + 1) (hx : xs = S'.map Prod.fst) (hs : Sorted (fun p q : PV => cmpV p.2 q.2) ((tagFrom 0 ps).take (i + 1)) S') : RsInv w ps (i + 1) S' v wr := by
  subst hm hx
  exact ⟨own_less h.own I.bel.size, hs, I.bel.step' h.bel, fun h => by omega⟩
theorem NxInv.alloc {wx : World} {v : Value} {n : Nat} {xs : List PV} {wr : World} (h : NxInv wx v n xs wr) (o : Obj) : NxInv wx v n xs (wr.alloc o) := ⟨h.own.alloc _, h.bel.alloc h.bel.size o⟩

theorem RsInv.rv {w wr : World} {A : Option Addr} {n c i k : Nat} {ps : List PV} {S : List (PV × Nat)} {v : Value} {s : PV × Nat} (hp : SL (fun _ => True) w A n c ps) (h : RsInv w ps i S v wr) (hs : S[k]? = some s) : RW wr s.1.1 s.1.2 := by
  have h1 : s ∈ tagFrom 0 ps := List.mem_of_mem_take (h.so.perm.subset (List.mem_of_getElem? hs))
  have h2 : s.1 ∈ ps := by rw [← tagFrom_map ps 0]; exact List.mem_map_of_mem h1
  exact (hp.rv s.1 h2).step h.bel

theorem tagFrom_get (l : List PV) : ∀ (n i : Nat) (p : PV), l[i]? = some p → (tagFrom n l)[i]? = some (p, n + i) := by
  induction l with
  | nil => intro n i p h; simp at h
  | cons x r ih =>
    intro n i p h
    cases i with
    | zero => simp at h; subst h; rfl
    | succ i =>
      have := ih (n + 1) i p (by simpa using h)
      simp only [tagFrom, List.getElem?_cons_succ]
      rw [this, show n + 1 + i = n + (i + 1) by omega]
theorem round_sorted {ps : List PV} {i k : Nat} {S : List (PV × Nat)} {p : PV} (h : Sorted (fun p q : PV => cmpV p.2 q.2) ((tagFrom 0 ps).take i) S) (hp : ps[i]? = some p) (hlo : ∀ (q : Nat) s, S[q]? = some s → q < k → cmpV s.1.2 p.2 ≤ 0) (hhi : ∀ s, S[k]? = some s → ¬ cmpV s.1.2 p.2 ≤ 0) :
    Sorted (fun p q : PV => cmpV p.2 q.2) ((tagFrom 0 ps).take (i + 1)) (S.take k ++ (p, i) :: S.drop k) := by
  have hg := tagFrom_get ps 0 i p hp
  rw [Nat.zero_add] at hg
  rw [take_snoc' hg]
  refine insert_sorted ordV (by rw [List.take_append_drop]; exact h) (fun s hs => ?_) (fun s hs => ?_) (fun s hs => ?_)
  · obtain ⟨q, hq⟩ := List.getElem?_of_mem hs
    have hlt := (List.getElem?_eq_some_iff.1 hq).1
    rw [List.length_take] at hlt
    rw [List.getElem?_take_of_lt (by omega)] at hq
    exact pw_at (tagFrom_tagged ps 0) (by omega : q < i) hq hg
  · obtain ⟨q, hq⟩ := List.getElem?_of_mem hs
    have hlt := (List.getElem?_eq_some_iff.1 hq).1
    rw [List.length_take] at hlt
    rw [List.getElem?_take_of_lt (by omega)] at hq
    exact hlo q s hq (by omega)
  · rw [List.getElem?_drop, Nat.add_zero] at hs
    exact hhi s hs
theorem flat_one (xs : List PV) : ∀ u ∈ flat recV xs, u.oneCell' = true := by
  intro u hu
  obtain ⟨p, _, h⟩ := List.mem_flatMap.1 hu
  exact recV_one p u h

set_option maxRecDepth 100000 in
set_option maxHeartbeats 4000000 in
theorem refSort_any (ps : List PV) (A : Option Addr) (n c : Nat) (w : World) (h : SL (fun _ => True) w A n c ps) : Calls Tryd.prog 24 #[.slice A n c] w (fun e w' => ∃ (A' : Option Addr) (n' c' : Nat) (qs : List PV), e = .returned (.slice A' n' c') ∧ StV (ps.map Prod.snd) (qs.map Prod.snd) ∧ SL (fun _ => True) w' A' n' c' qs ∧ Below w.heap.size w w') := by
  obtain ⟨i0, hi0, hz0, hz1, hz2⟩ := info_parts info_value
  have hz := h.sz
  unfold reach at hz
  have HP := Lib.hid h
  have HN := Lib.hid h.sr.ln
  have I0 : Hid (RsInv w ps 0 [] (.slice none 0 0) w) := Lib.hid ⟨own_nil _ _ _ _, Sorted.nil, Below.refl _ _, fun _ => rfl⟩
  clear h
  go_enter Tryd.func24, Tryd.ntmps24
  go_wp2_with fail
  go_loopw [3, 4] (fun v3 v4 wr => ∃ (i : Nat) (S : List (PV × Nat)), i ≤ n ∧ v4 = .int .i64 i ∧ RsInv w ps i S v3 wr) (fun _ v4 _ => n - (intOf v4).toNat)
  case atStart => exact ⟨0, [], Nat.zero_le _, rfl, I0.out⟩
  case round =>
    obtain ⟨i, S, hi, rfl, I⟩ := hrel
    obtain ⟨B, cb, rfl, hcb⟩ := own_slice I.own
    have J := Lib.hid I
    have HSl : Hid (S.length = i) := by
      have h1 := flat_length recV_length (S.map Prod.fst)
      rw [I.own.1] at h1
      rw [List.length_map] at h1
      rw [Hid]
      omega
    by_cases hlt : i < n
    · obtain ⟨p, hp⟩ : ∃ p, ps[i]? = some p := ⟨_, List.getElem?_eq_getElem (by have := HN.out; omega)⟩
      obtain ⟨b, off, rfl, _, hu, hr⟩ := HP.out.vat hp
      have HU := Lib.hid hu
      have HR := Lib.hid hr
      have HPi := Lib.hid hp
      clear hp hu hr I
      go_upto_block 2 with fail
      go_cut [5] (fun s5 wx => ∃ k : Nat, k ≤ i ∧ s5 = .int .i64 k ∧ (∀ (q : Nat) s, S[q]? = some s → q < k → cmpV s.1.2 p.2 ≤ 0) ∧ (∀ s, S[k]? = some s → ¬ cmpV s.1.2 p.2 ≤ 0) ∧ RsInv w ps i S (.slice B i cb) wx)
      case first => as_aux_lemma =>
        go_wp2_with fail
        go_loopw [5] (fun v5 wr => ∃ k : Nat, k ≤ i ∧ v5 = .int .i64 k ∧ (∀ (q : Nat) s, S[q]? = some s → q < k → cmpV s.1.2 p.2 ≤ 0) ∧ RsInv w ps i S (.slice B i cb) wr) (fun v5 _ => n - (intOf v5).toNat)
        case atStart => exact ⟨0, Nat.zero_le _, rfl, fun q s _ hq => by omega, J.out⟩
        case round =>
          obtain ⟨k, hk, rfl, hlo, I⟩ := hrel
          have HLo := Lib.hid hlo
          have J2 := Lib.hid I
          clear hlo
          by_cases hki : k < i
          · obtain ⟨s, hs⟩ : ∃ s, S[k]? = some s := ⟨_, List.getElem?_eq_getElem (by have := HSl.out; omega)⟩
            obtain ⟨g, rfl, hg, r0, r1, r2, r3, r4⟩ := I.at hs
            obtain ⟨p0, p1, p2, p3, p4⟩ := HU.out.keep (I.bel.block b HU.out.lt)
            have P0 : ∀ k : BW wr, k.val.cell? ⟨b, off + i * 5, none⟩ = some (.int .i64 p.1.k) := fun k => k.cell p0
            have P1 : ∀ k : BW wr, k.val.cell? ⟨b, off + i * 5 + 1, none⟩ = some (.int .i64 p.1.n) := fun k => k.cell p1
            have P2 : ∀ k : BW wr, k.val.cell? ⟨b, off + i * 5 + 2, none⟩ = some (.string p.1.t) := fun k => k.cell p2
            have P3 : ∀ k : BW wr, k.val.cell? ⟨b, off + i * 5 + 3, none⟩ = some (.slice p.1.LA p.1.ln p.1.lc) := fun k => k.cell p3
            have P4 : ∀ k : BW wr, k.val.cell? ⟨b, off + i * 5 + 4, none⟩ = some (.slice p.1.DA p.1.dn p.1.dc) := fun k => k.cell p4
            have R0 : ∀ q : BW wr, q.val.cell? ⟨g, k * 5, none⟩ = some (.int .i64 s.1.1.k) := fun q => q.cell r0
            have R1 : ∀ q : BW wr, q.val.cell? ⟨g, k * 5 + 1, none⟩ = some (.int .i64 s.1.1.n) := fun q => q.cell r1
            have R2 : ∀ q : BW wr, q.val.cell? ⟨g, k * 5 + 2, none⟩ = some (.string s.1.1.t) := fun q => q.cell r2
            have R3 : ∀ q : BW wr, q.val.cell? ⟨g, k * 5 + 3, none⟩ = some (.slice s.1.1.LA s.1.1.ln s.1.1.lc) := fun q => q.cell r3
            have R4 : ∀ q : BW wr, q.val.cell? ⟨g, k * 5 + 4, none⟩ = some (.slice s.1.1.DA s.1.1.dn s.1.1.dc) := fun q => q.cell r4
            have i0' : (0 : Int) ≤ (k : Int) := by omega
            have i1' : (k : Int) < (i : Int) := by omega
            have i2' : (0 : Int) ≤ (i : Int) := by omega
            have i3' : (i : Int) < (n : Int) := by omega
            have K1 : Hid (∀ q : BW wr, Calls Tryd.prog 18 #[s.1.1.val, p.1.val] q.val fun e w'' => e = .returned (.int .i64 (cmpV s.1.2 p.2)) ∧ ∃ k : BW wr, w'' = k.val) := fun q =>
              Calls.bw (rcmp_any s.1.2 p.2 s.1.1 p.1 q.val (RsInv.rv HP.out (I.step q.below) hs) ((HR.out.step I.bel).step q.below))
            have HS := Lib.hid hs
            clear p0 p1 p2 p3 p4 r0 r1 r2 r3 r4 I hs
            go_upto_region 6 with fail
            refine wp_region_bw (by kernel_rfl) (by kernel_rfl) ?_
            repeat (go_big_quiet_step (with_reducible exact K1.out _))
            refine wpQuiet_nil ?_
            rintro _ ⟨kw, rfl⟩
            have J3 := Lib.hid (J2.out.step kw.below)
            clear P0 P1 P2 P3 P4 R0 R1 R2 R3 R4 K1 i0' i1' i2' i3'
            generalize kw.val = w2 at *
            by_cases hc : cmpV s.1.2 p.2 ≤ 0
            · have HLo2 : Hid (∀ (q : Nat) s, S[q]? = some s → q < k + 1 → cmpV s.1.2 p.2 ≤ 0) := fun q z hz hq => by
                by_cases e : q = k
                · subst e
                  rw [HS.out] at hz
                  cases hz
                  exact hc
                · exact HLo.out q z hz (by omega)
              go_wp2_with fail
              go_roundw
              case rel => exact ⟨k + 1, by omega, by go_num, HLo2.out, J3.out⟩
              case measure => simp [intOf]; omega
            · have HHi : Hid (∀ z, S[k]? = some z → ¬ cmpV z.1.2 p.2 ≤ 0) := fun z hz => by
                rw [HS.out] at hz
                cases hz
                exact hc
              go_wp2_with fail
              go_meet
              exact ⟨k, by omega, rfl, HLo.out, HHi.out, J3.out⟩
          · have HHi : Hid (∀ z, S[k]? = some z → ¬ cmpV z.1.2 p.2 ≤ 0) := fun z hz => by
              have := (List.getElem?_eq_some_iff.1 hz).1
              have := HSl.out
              omega
            have hki' : decide ((k : Int) < (i : Int)) = false := decide_eq_false (by omega)
            clear I
            go_upto_region 6 with fail
            go_quiet (fail)
            go_wp2_with fail
            go_meet
            exact ⟨k, by omega, rfl, HLo.out, HHi.out, J2.out.step (Below.drewN (Below.refl _ _) _)⟩
      case rest =>
        obtain ⟨k, hk, rfl, hlo, hhi, I⟩ := hcut
        have HD : Hid (Sorted (fun p q : PV => cmpV p.2 q.2) ((tagFrom 0 ps).take (i + 1)) (S.take k ++ (p, i) :: S.drop k)) := round_sorted I.so HPi.out hlo hhi
        have J2 := Lib.hid I
        have HRd := Lib.hid (Reads.of_own I.own)
        have HUc := Lib.hid (HU.out.keep (I.bel.block b HU.out.lt))
        have hbw : b < wc.heap.size := HUc.out.lt
        clear hlo hhi I
        have N0 : Hid (NxInv wc (.slice none 0 0) 0 [] wc) := Lib.hid ⟨own_nil _ _ _ _, Below.refl _ _⟩
        have R1 : Hid (Reads wc wc.heap.size 5 B k (flat recV ((S.map Prod.fst).take k))) := by
          have := HRd.out.take hk
          rw [flat_take recV_length] at this
          exact this
        have R2 : Hid (Reads wc wc.heap.size 5 (if cb = k then B else B.map (·.add (k * 5))) (i - k) (flat recV ((S.map Prod.fst).drop k))) := by
          have := HRd.out.cut hk hcb
          rw [flat_drop recV_length] at this
          exact this
        have hB : B = none ∧ i = 0 ∧ cb = 0 ∨ ∃ g, B = some ⟨g, 0, none⟩ ∧ 0 < i := by
          rcases Nat.eq_zero_or_pos i with h0 | h0
          · have := J2.out.z h0
            cases this
            exact .inl ⟨rfl, h0, rfl⟩
          · rcases J2.out.own.2 with ⟨h1, h2⟩ | ⟨g, cap, cur, hv, hge, hh, hnc, hr⟩
            · omega
            · cases hv
              exact .inr ⟨g, rfl, h0⟩
        obtain ⟨p0, p1, p2, p3, p4⟩ := HUc.out
        have hin : (i : Int) < (n : Int) := by omega
        rcases hB with ⟨rfl, rfl, rfl⟩ | ⟨g, rfl, h0⟩
        · obtain rfl : k = 0 := by omega
          simp only [if_true] at R2
          simp only [Nat.zero_mul, Nat.add_zero] at p0 p1 p2 p3 p4
          go_wp2_with (at_builtin; refine wpList_append_any _ rfl _ _ 22 rfl wc.heap.size 25 i0 VC.zero.val 5 80 Tryd.underlying22 hi0 hz0 hz1 hz2 rfl (by decide) (.slice none 0 0) 0 (flat recV []) rfl N0.out.own _ _ 0 _ (flat recV ((S.map Prod.fst).take 0)) rfl R1.out ?c1 (by unfold maxLen; omega) (by omega) (Nat.le_refl _) ?_)
          case c1 => exact flat_one _
          intro v1 w1 ho1 hg1 _
          have N1 : Hid (NxInv wc v1 0 ([] ++ (S.map Prod.fst).take 0) w1) := Lib.hid (N0.out.next rfl (by omega) ho1 hg1)
          clear ho1 hg1 p0 p1 p2 p3 p4
          obtain ⟨p0, p1, p2, p3, p4⟩ := HUc.out.keep (N1.out.bel.block b hbw)
          simp only [Nat.zero_mul, Nat.add_zero] at p0 p1 p2 p3 p4
          have hb1 : b < w1.heap.size := by have := N1.out.bel.size; omega
          have hw1 := N1.out.bel.size
          go_wp2_with (at_builtin; refine wpList_append_any _ rfl _ _ 22 rfl wc.heap.size 25 i0 VC.zero.val 5 80 Tryd.underlying22 hi0 hz0 hz1 hz2 rfl (by decide) v1 0 (flat recV ([] ++ (S.map Prod.fst).take 0)) rfl (N1.out.alloc _).own _ _ 1 _ (recV p) rfl ⟨rfl, fun _ => ⟨_, rfl, Nat.lt_succ_self _, news_at _ _ _⟩⟩ ?c1 (by unfold maxLen; omega) (by omega) (by simp; omega) ?_)
          case c1 => exact recV_one p
          intro v2 w2 ho2 hg2 _
          have N2 : Hid (NxInv wc v2 1 ([] ++ (S.map Prod.fst).take 0 ++ [p]) w2) := Lib.hid ((N1.out.alloc _).next (by simp [flat]) (by omega) ho2 hg2)
          clear ho2 hg2 p0 p1 p2 p3 p4
          have hw2 := N2.out.bel.size
          go_wp2_with (at_builtin; refine wpList_append_any _ rfl _ _ 22 rfl wc.heap.size 25 i0 VC.zero.val 5 80 Tryd.underlying22 hi0 hz0 hz1 hz2 rfl (by decide) v2 1 (flat recV ([] ++ (S.map Prod.fst).take 0 ++ [p])) rfl N2.out.own _ _ 0 _ (flat recV ((S.map Prod.fst).drop 0)) rfl (R2.out.below N2.out.bel) ?c1 (by unfold maxLen; omega) (by omega) hw2 ?_)
          case c1 => exact flat_one _
          intro v3 w3 ho3 hg3 _
          have N3 : Hid (NxInv wc v3 (1) ([] ++ (S.map Prod.fst).take 0 ++ [p] ++ (S.map Prod.fst).drop 0) w3) := Lib.hid (N2.out.next rfl (by omega) ho3 hg3)
          clear ho3 hg3
          go_wp2_with fail
          go_roundw
          case rel => exact ⟨0 + 1, _, by omega, by go_num, N3.out.done J2.out (by omega) (by simp) HD.out⟩
          case measure => simp [intOf]; omega
        · have hc0 : (cb = 0) = False := by simp; omega
          by_cases hck : cb = k
          · subst hck
            simp only [if_true] at R2
            rw [show i - cb = 0 by omega] at R2
            go_wp2_with (at_builtin; refine wpList_append_any _ rfl _ _ 22 rfl wc.heap.size 25 i0 VC.zero.val 5 80 Tryd.underlying22 hi0 hz0 hz1 hz2 rfl (by decide) (.slice none 0 0) 0 (flat recV []) rfl N0.out.own _ _ cb _ (flat recV ((S.map Prod.fst).take cb)) rfl R1.out ?c1 (by unfold maxLen; omega) (by omega) (Nat.le_refl _) ?_)
            case c1 => exact flat_one _
            intro v1 w1 ho1 hg1 _
            have N1 : Hid (NxInv wc v1 cb ([] ++ (S.map Prod.fst).take cb) w1) := Lib.hid (N0.out.next rfl (by omega) ho1 hg1)
            clear ho1 hg1 p0 p1 p2 p3 p4
            obtain ⟨p0, p1, p2, p3, p4⟩ := HUc.out.keep (N1.out.bel.block b hbw)
            have hb1 : b < w1.heap.size := by have := N1.out.bel.size; omega
            have hw1 := N1.out.bel.size
            go_wp2_with (at_builtin; refine wpList_append_any _ rfl _ _ 22 rfl wc.heap.size 25 i0 VC.zero.val 5 80 Tryd.underlying22 hi0 hz0 hz1 hz2 rfl (by decide) v1 cb (flat recV ([] ++ (S.map Prod.fst).take cb)) rfl (N1.out.alloc _).own _ _ 1 _ (recV p) rfl ⟨rfl, fun _ => ⟨_, rfl, Nat.lt_succ_self _, news_at _ _ _⟩⟩ ?c1 (by unfold maxLen; omega) (by omega) (by simp; omega) ?_)
            case c1 => exact recV_one p
            intro v2 w2 ho2 hg2 _
            have N2 : Hid (NxInv wc v2 (cb + 1) ([] ++ (S.map Prod.fst).take cb ++ [p]) w2) := Lib.hid ((N1.out.alloc _).next (by simp [flat]) (by omega) ho2 hg2)
            clear ho2 hg2 p0 p1 p2 p3 p4
            have hw2 := N2.out.bel.size
            go_wp2_with (at_builtin; refine wpList_append_any _ rfl _ _ 22 rfl wc.heap.size 25 i0 VC.zero.val 5 80 Tryd.underlying22 hi0 hz0 hz1 hz2 rfl (by decide) v2 (cb + 1) (flat recV ([] ++ (S.map Prod.fst).take cb ++ [p])) rfl N2.out.own _ _ 0 _ (flat recV ((S.map Prod.fst).drop cb)) rfl (R2.out.below N2.out.bel) ?c1 (by unfold maxLen; omega) (by omega) hw2 ?_)
            case c1 => exact flat_one _
            intro v3 w3 ho3 hg3 _
            have N3 : Hid (NxInv wc v3 (cb + 1) ([] ++ (S.map Prod.fst).take cb ++ [p] ++ (S.map Prod.fst).drop cb) w3) := Lib.hid (N2.out.next rfl (by omega) ho3 hg3)
            clear ho3 hg3
            go_wp2_with fail
            go_roundw
            case rel => exact ⟨i + 1, _, by omega, by go_num, N3.out.done J2.out (by omega) (by simp) HD.out⟩
            case measure => simp [intOf]; omega
          · rw [if_neg hck] at R2
            simp only [Option.map_some, addr_add, Nat.zero_add] at R2
            have hck' : (cb = k) = False := by simp; omega
            go_wp2_with (at_builtin; refine wpList_append_any _ rfl _ _ 22 rfl wc.heap.size 25 i0 VC.zero.val 5 80 Tryd.underlying22 hi0 hz0 hz1 hz2 rfl (by decide) (.slice none 0 0) 0 (flat recV []) rfl N0.out.own _ _ k _ (flat recV ((S.map Prod.fst).take k)) rfl R1.out ?c1 (by unfold maxLen; omega) (by omega) (Nat.le_refl _) ?_)
            case c1 => exact flat_one _
            intro v1 w1 ho1 hg1 _
            have N1 : Hid (NxInv wc v1 k ([] ++ (S.map Prod.fst).take k) w1) := Lib.hid (N0.out.next rfl (by omega) ho1 hg1)
            clear ho1 hg1 p0 p1 p2 p3 p4
            obtain ⟨p0, p1, p2, p3, p4⟩ := HUc.out.keep (N1.out.bel.block b hbw)
            have hb1 : b < w1.heap.size := by have := N1.out.bel.size; omega
            have hw1 := N1.out.bel.size
            go_wp2_with (at_builtin; refine wpList_append_any _ rfl _ _ 22 rfl wc.heap.size 25 i0 VC.zero.val 5 80 Tryd.underlying22 hi0 hz0 hz1 hz2 rfl (by decide) v1 k (flat recV ([] ++ (S.map Prod.fst).take k)) rfl (N1.out.alloc _).own _ _ 1 _ (recV p) rfl ⟨rfl, fun _ => ⟨_, rfl, Nat.lt_succ_self _, news_at _ _ _⟩⟩ ?c1 (by unfold maxLen; omega) (by omega) (by simp; omega) ?_)
            case c1 => exact recV_one p
            intro v2 w2 ho2 hg2 _
            have N2 : Hid (NxInv wc v2 (k + 1) ([] ++ (S.map Prod.fst).take k ++ [p]) w2) := Lib.hid ((N1.out.alloc _).next (by simp [flat]) (by omega) ho2 hg2)
            clear ho2 hg2 p0 p1 p2 p3 p4
            have hw2 := N2.out.bel.size
            go_wp2_with (at_builtin; refine wpList_append_any _ rfl _ _ 22 rfl wc.heap.size 25 i0 VC.zero.val 5 80 Tryd.underlying22 hi0 hz0 hz1 hz2 rfl (by decide) v2 (k + 1) (flat recV ([] ++ (S.map Prod.fst).take k ++ [p])) rfl N2.out.own _ _ (i - k) _ (flat recV ((S.map Prod.fst).drop k)) rfl (R2.out.below N2.out.bel) ?c1 (by unfold maxLen; omega) (by omega) hw2 ?_)
            case c1 => exact flat_one _
            intro v3 w3 ho3 hg3 _
            have N3 : Hid (NxInv wc v3 (k + 1 + (i - k)) ([] ++ (S.map Prod.fst).take k ++ [p] ++ (S.map Prod.fst).drop k) w3) := Lib.hid (N2.out.next rfl (by omega) ho3 hg3)
            clear ho3 hg3
            go_wp2_with fail
            go_roundw
            case rel => exact ⟨i + 1, _, by omega, by go_num, N3.out.done J2.out (by omega) (by simp) HD.out⟩
            case measure => simp [intOf]; omega
    · have HF : Hid ((tagFrom 0 ps).take i = tagFrom 0 ps) := List.take_of_length_le (by rw [tagFrom_length]; have := HN.out; omega)
      clear I
      go_wp2_with fail
      go_ret
      have ho := J.out.own
      obtain ⟨A', c', e, hs⟩ := SL.of_own (F := fun _ => True) ho (by rw [List.length_map]; exact HSl.out) (by unfold reach; omega) (fun _ _ => trivial) (fun q hq => by
        obtain ⟨s, hs, rfl⟩ := List.mem_map.1 hq
        obtain ⟨k, hk⟩ := List.getElem?_of_mem hs
        exact RsInv.rv HP.out J.out hk)
      cases e
      refine ⟨B, i, cb, S.map Prod.fst, rfl, ⟨S.map (fun p => (p.1.2, p.2)), ?_, by simp⟩, hs, J.out.bel⟩
      have := J.out.so
      rw [HF.out] at this
      have := this.toVal
      rw [tag_val] at this
      exact this

end Go.Proofs.YtckeccfbadlhhaaDoor
