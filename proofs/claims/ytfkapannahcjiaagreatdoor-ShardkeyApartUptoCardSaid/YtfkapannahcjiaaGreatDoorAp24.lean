/- Parts of the proof, joined: RgJoin, RgAfter, RgAftP, RgSpan, RgSpanN, PrLeaf, BoKind. -/
import Derived.Test.YtfkapannahcjiaaGreatDoorAp23
import Derived.Test.YtfkapannahcjiaaGreatDoorAp3
import Derived.Test.YtfkapannahcjiaaGreatDoorAp16
import Derived.Test.YtfkapannahcjiaaGreatDoorAp20
import Derived.Test.YtfkapannahcjiaaGreatDoorAp17
import Derived.Laws.BytesArg
import Derived.Laws.Concat
import Derived.Laws.ResultCell
/- shardkey.joined: ranges in order, each once, those that touch joined. -/
namespace Go.Proofs.YtfkapannahcjiaaGreatDoor
open Go.RowKit
set_option linter.unusedSimpArgs false

theorem flat_setB {xs : List B2} {i : Nat} {a : B2} {v : ByteArray} (h : xs[i]? = some a) : (flat recB2 xs).set (i * 2 + 1) (.string v) = flat recB2 (xs.set i (a.1, v)) := by
  induction xs generalizing i with
  | nil => simp at h
  | cons b l ih =>
    have e : ∀ (y : B2) (t : List B2), flat recB2 (y :: t) = recB2 y ++ flat recB2 t := fun _ _ => rfl
    cases i with
    | zero =>
      simp at h
      subst h
      rfl
    | succ i =>
      have := ih (i := i) (by simpa using h)
      rw [List.set_cons_succ, e, e, ← this, List.set_append_right _ _ (by rw [recB2_length]; omega), recB2_length, show (i + 1) * 2 + 1 - 2 = i * 2 + 1 by omega]
theorem ownB_set {w : World} {base : Nat} {e : TypeId} {size n c g : Nat} {xs : List Value} (h : w.ownsRow base e size (.slice (some ⟨g, 0, none⟩) n c) n xs) (k : Nat) (u : Value) :
    (w.setCell ⟨g, k, none⟩ u).ownsRow base e size (.slice (some ⟨g, 0, none⟩) n c) n (xs.set k u) := by
  refine ⟨by rw [List.length_set]; exact h.1, ?_⟩
  rcases h.2 with ⟨h1, _⟩ | ⟨g', cap, cur, hv, hg, hh, hnc, hm, hsz, htk⟩
  · cases h1
  · injection hv with h1 h2 h3
    injection h1 with h1
    injection h1 with h1
    subst h1 h3
    have hb : Blk w g e cur := hh
    refine .inr ⟨g, c, cur.setIfInBounds k u, rfl, hg, hb.set_ k u, hnc, hm, by simpa using hsz, ?_⟩
    rw [Array.toList_setIfInBounds, List.take_set, htk]
theorem ownB_cell {w : World} {base : Nat} {e : TypeId} {size n c g : Nat} {xs : List Value} (h : w.ownsRow base e size (.slice (some ⟨g, 0, none⟩) n c) n xs) {k : Nat} {u : Value} (hk : xs[k]? = some u) : w.cell? ⟨g, k, none⟩ = some u ∧ w.frozen? ⟨g, k, none⟩ = false := by
  have := h.cells (g := g) rfl k u hk
  rw [addr_add, Nat.zero_add] at this
  refine ⟨this, ?_⟩
  rcases h.2 with ⟨h1, _⟩ | ⟨g', cap, cur, hv, hg, hh, _⟩
  · cases h1
  · injection hv with h1
    injection h1 with h1
    injection h1 with h1
    subst h1
    exact Blk.frozen (t := e) (cs := cur) hh k
theorem own_some {w : World} {base : Nat} {e : TypeId} {size n : Nat} {v : Value} {xs : List Value} (h : w.ownsRow base e size v n xs) (h0 : 0 < n) : ∃ g c, v = .slice (some ⟨g, 0, none⟩) n c ∧ base ≤ g ∧ g < w.heap.size := by
  rcases h.2 with ⟨_, h1⟩ | ⟨g, cap, cur, hv, hg, hh, _⟩
  · omega
  · exact ⟨g, cap, hv, hg, Blk.lt (t := e) (cs := cur) hh⟩
/-- the loop of joined -/
structure JnI (w2 : World) (Q : List B2) (i l : Nat) (v : Value) (wr : World) : Prop where
  own : wr.ownsRow w2.heap.size 45 2 v l (flat recB2 (jAll ByteArray.empty (Q.take i)))
  bel : Below w2.heap.size w2 wr
  ln : (jAll ByteArray.empty (Q.take i)).length = l
theorem JnI.step {w2 : World} {Q : List B2} {i l : Nat} {v : Value} {wr w' : World} (h : JnI w2 Q i l v wr) (hb : Below wr.heap.size wr w') : JnI w2 Q i l v w' := ⟨own_step h.own hb, h.bel.step' hb, h.ln⟩
theorem JnI.alloc {w2 : World} {Q : List B2} {i l : Nat} {v : Value} {wr : World} (h : JnI w2 Q i l v wr) (o : Obj) : JnI w2 Q i l v (wr.alloc o) := ⟨h.own.alloc _, h.bel.alloc h.bel.size o, h.ln⟩
theorem JnI.last {w2 : World} {Q : List B2} {i l g c : Nat} {wr : World} (h : JnI w2 Q i (l + 1) (.slice (some ⟨g, 0, none⟩) (l + 1) c) wr) : ∃ q : B2, (jAll ByteArray.empty (Q.take i))[l]? = some q ∧ wr.cell? ⟨g, l * 2 + 1, none⟩ = some (.string q.2) ∧ wr.frozen? ⟨g, l * 2 + 1, none⟩ = false := by
  obtain ⟨q, hq⟩ : ∃ q, (jAll ByteArray.empty (Q.take i))[l]? = some q := ⟨_, List.getElem?_eq_getElem (by have := h.ln; omega)⟩
  obtain ⟨h1, h2⟩ := ownB_cell h.own (flat_get recB2_length hq (j := 1) (v := .string q.2) rfl)
  exact ⟨q, hq, h1, h2⟩
theorem empty_list (b : ByteArray) : b.toList = [] ↔ b = ByteArray.empty := by
  rw [Go.ByteArray.toList_eq]
  constructor
  · intro h; exact ByteArray.ext (Array.toList_inj.1 h)
  · rintro rfl; rfl
theorem same_list (a b : ByteArray) : a.toList = b.toList ↔ a = b := by
  rw [Go.ByteArray.toList_eq, Go.ByteArray.toList_eq]
  constructor
  · intro h; exact ByteArray.ext (Array.toList_inj.1 h)
  · rintro rfl; rfl
/-- what joined hands back -/
def JoinOk (xs : List B2) (base : Nat) (w : World) (e : Ending) (w' : World) : Prop :=
  ∃ A m c Z, e = .returned (.slice A m c) ∧ SortedB xs Z ∧ SR 2 recB2 w' A m c (jAll ByteArray.empty (once Z)) ∧ m ≤ xs.length ∧ Below base w w'
set_option maxRecDepth 100000 in
set_option maxHeartbeats 8000000 in
theorem joinedB_any (xs : List B2) (base n : Nat) (v : Value) (w : World) (h : w.ownsRow base 45 2 v n (flat recB2 xs)) (hn : xs.length = n) (hb : base ≤ w.heap.size) (hz : n ≤ 4000000000) :
    Calls Tryz.prog 25 #[v] w (JoinOk xs base w) := by
  obtain ⟨j0, hj0, hy0, hy1, hy2⟩ := info_parts info_pair
  have HN := Lib.hid hn
  have HZ := Lib.hid hz
  have HBS := Lib.hid hb
  have sorted : Hid (Calls Tryz.prog 68 #[v, .func (.func 69) #[] #[]] w fun e w' => e = .returned (.tuple #[]) ∧ ∃ S, Sorted cmB2 (tagFrom 0 xs) S ∧ Below base w w' ∧ (v = .slice none 0 0 ∧ S = [] ∨ ∃ g c, v = .slice (some ⟨g, 0, none⟩) n c ∧ base ≤ g ∧ SRowB w' g S ∧ n ≤ c)) := by
    rcases h.2 with ⟨h', h0⟩ | ⟨g, cap, cur, h', hg, _, hnc, _⟩
    · subst h'
      have hx : xs = [] := List.eq_nil_of_length_eq_zero (by omega)
      refine Lib.hid ((sortB_nil w).mono ?_)
      rintro e w' ⟨rfl, rfl⟩
      exact ⟨rfl, [], by rw [hx]; exact ⟨.nil, .nil⟩, (Below.refl _ _).mono hb, .inl ⟨rfl, rfl⟩⟩
    · subst h'
      refine Lib.hid ((sortB_any (tagFrom 0 xs) g n cap w (SRowB.of_own h) (by rw [tagFrom_length]; exact hn.symm) (by unfold reach; omega) (tagFrom_tagged _ _) (fun x y _ _ wr _ => pcmp_any x.1 y.1 wr)).mono ?_)
      rintro e w' ⟨rfl, S, hS, hI⟩
      simp only [List.nil_append, List.append_nil] at hI
      exact ⟨rfl, S, hS, hI.but.below hb hg, .inr ⟨g, cap, rfl, hg, hI.row, hnc⟩⟩
  clear h hn hb hz
  go_enter Tryz.func25, Tryz.ntmps25
  go_wp2_with fail
  refine sorted.out.mono ?_
  rintro e w1 ⟨rfl, S, hS, hb1, hv⟩
  have HS := Lib.hid (SortedB.of hS)
  have HSL : Hid (S.length = n) := by rw [Hid, hS.perm.length_eq, tagFrom_length]; exact HN.out
  have HB1 := Lib.hid hb1
  have comp : Hid (Calls Tryz.prog 72 #[v] w1 fun e w' => ∃ A m c, e = .returned (.slice A m c) ∧ SR 2 recB2 w' A m c (once (S.map Prod.fst)) ∧ Below base w w') := by
    rcases hv with ⟨h', rfl⟩ | ⟨g, c, h', hg, hrow, hnc⟩
    · subst h'
      refine Lib.hid ((compB_nil w1).mono ?_)
      rintro e w' ⟨rfl, rfl⟩
      exact ⟨none, 0, 0, rfl, SR.nil, hb1⟩
    · subst h'
      refine Lib.hid ((compB_any S g n c w1 hrow HSL.out.symm hnc (by have := HZ.out; unfold reach; omega)).mono ?_)
      rintro e w' ⟨m, c', rfl, hsr, hbt⟩
      exact ⟨_, m, c', rfl, hsr, hb1.trans (hbt.below (Nat.le_trans HBS.out hb1.size) hg)⟩
  clear sorted hS hb1 hv
  go_wp2_with fail
  refine comp.out.mono ?_
  rintro e w2 ⟨A, m, c, rfl, hsr, hb2⟩
  obtain ⟨Q, hQ⟩ : ∃ Q, Q = once (S.map Prod.fst) := ⟨_, rfl⟩
  rw [← hQ] at hsr
  have HSR := Lib.hid hsr
  have HB2 := Lib.hid hb2
  have HQ := Lib.hid hQ
  have HQL : Hid (Q.length = m) := Lib.hid hsr.ln.symm
  have HMN : Hid (m ≤ n) := by
    have := once_len (S.map Prod.fst)
    rw [← hQ, List.length_map, HSL.out, HQL.out] at this
    exact Lib.hid this
  have mz : m ≤ 4000000000 := Nat.le_trans HMN.out HZ.out
  clear comp hsr hb2 hQ
  go_upto_region 4 with fail
  go_loopw [3, 5, 6, 12] (fun v3 _ _ v12 wr => ∃ (i l : Nat), i ≤ m ∧ v12 = .int .i64 i ∧ JnI w2 Q i l v3 wr) (fun _ _ _ v12 _ => m - (intOf v12).toNat)
  case atStart => exact ⟨0, 0, Nat.zero_le _, rfl, own_nil _ _ _ _, Below.refl _ _, rfl⟩
  case round =>
    obtain ⟨i, l, hi, rfl, hI⟩ := hrel
    have HI := Lib.hid hI
    obtain ⟨A3, c3, rfl, hlc⟩ := own_slice hI.own
    have HLM : Hid (l ≤ i) := by have := jAll_len ByteArray.empty Q i; rw [hI.ln] at this; exact Lib.hid this
    clear hI
    by_cases hlt : i < m
    · obtain ⟨b, off, r, rfl, hb, hr, _, hrg⟩ := HSR.out.row hlt
      have HR := Lib.hid hr
      have e0 := (HI.out.bel.cell (p := ⟨b, off + i * 2, none⟩) hb).trans (hrg 0 _ rfl)
      have e1 := (HI.out.bel.cell (p := ⟨b, off + i * 2 + 1, none⟩) hb).trans (hrg 1 _ rfl)
      have i0 : (0 : Int) ≤ (i : Int) := by omega
      have i1 : (i : Int) < (m : Int) := by omega
      have lz : l ≤ 4000000000 := by have := HLM.out; omega
      clear hr hrg
      go_upto_region 6 with fail
      change Code.wp _ _ _ _ (wr.alloc (Obj.cells #[.string r.1, .string r.2] 45))
      have JB : Hid (Blk (wr.alloc (Obj.cells #[.string r.1, .string r.2] 45)) wr.heap.size 45 #[.string r.1, .string r.2]) := Blk.new_at rfl
      replace HI := Lib.hid (HI.out.alloc (Obj.cells #[.string r.1, .string r.2] 45))
      generalize wr.alloc (Obj.cells #[.string r.1, .string r.2] 45) = wa at *
      generalize wr.heap.size = ga at *
      clear e0 e1
      rcases Nat.eq_zero_or_pos l with rfl | hl0
      · have R0 : ∀ kk : BW wa, kk.val.cell? ⟨ga, 0, none⟩ = some (.string r.1) := fun kk => kk.cell ((JB.out.cell 0).trans rfl)
        go_upto_region 7 with fail
        refine wp_region_bw (by kernel_rfl) (by kernel_rfl) ?_
        repeat (go_big_quiet_step (fail))
        refine wpQuiet_nil ?_
        rintro _ ⟨kw, rfl⟩
        clear R0
        replace JB := Lib.hid (JB.out.step kw.below)
        replace HI := Lib.hid (HI.out.step kw.below)
        generalize kw.val = w5 at *
        have k0 := JB.out.cell 0
        have k1 := JB.out.cell 1
        simp at k0 k1
        go_wp2_with (at_builtin; refine wpList_append_any _ rfl _ _ 43 rfl w2.heap.size 45 j0 (.agg #[.string ByteArray.empty, .string ByteArray.empty]) 2 32 Tryz.underlying43 hj0 hy0 hy1 hy2 rfl (by decide) (.slice A3 0 c3) 0 (flat recB2 (jAll ByteArray.empty (Q.take i))) rfl (HI.out.own.alloc _) _ _ 1 _ (recB2 r) rfl ⟨rfl, fun _ => ⟨_, rfl, Nat.lt_succ_self _, news_at _ _ _⟩⟩ (recB2_one _) (by unfold maxLen; omega) (by omega) (le_alloc HI.out.bel.size _) ?_)
        intro v' w6 hown hgr hat
        have HX : Hid (JnI w2 Q (i + 1) (0 + 1) v' w6) := by
          have e : jAll ByteArray.empty (Q.take (i + 1)) = jAll ByteArray.empty (Q.take i) ++ [r] := by
            rw [jAll_take HR.out]
            exact jstep_app (fun qq hq => by
              have h0 := HI.out.ln
              have h1 := (List.getElem?_eq_some_iff.1 hq).1
              omega)
          refine ⟨?_, (HI.out.bel.alloc HI.out.bel.size _).grown hgr (le_alloc HI.out.bel.size _) (own_ge HI.out.own), ?_⟩
          · rw [e, flat_snoc]; exact hown
          · rw [e, List.length_append, HI.out.ln]; rfl
        clear hown hgr hat k0 k1
        go_wp2_with fail
        go_roundw
        case rel => exact ⟨i + 1, 0 + 1, by omega, by go_num, HX.out⟩
        case measure => simp [intOf]; omega
      · obtain ⟨l', rfl⟩ : ∃ l', l = l' + 1 := ⟨l - 1, by omega⟩
        obtain ⟨g, c4, hA3, hg, hgl⟩ := own_some HI.out.own (by omega)
        injection hA3 with hA3 _ hc34
        subst hA3 hc34
        obtain ⟨q, hq, hqc, hqf⟩ := HI.out.last
        have HQQ := Lib.hid hq
        have R0 : ∀ kk : BW wa, kk.val.cell? ⟨ga, 0, none⟩ = some (.string r.1) := fun kk => kk.cell ((JB.out.cell 0).trans rfl)
        have X0 : ∀ kk : BW wa, kk.val.cell? ⟨g, l' * 2 + 1, none⟩ = some (.string q.2) := fun kk => kk.cell hqc
        have l0 : (0 : Int) ≤ (l' : Int) := by omega
        have l1 : (l' : Int) < (l' : Int) + 1 := by omega
        have l2 : (0 : Int) < (l' : Int) + 1 := by omega
        clear hq hqc hqf hl0
        go_upto_region 7 with fail
        cases hc1 : (!q.2.toList.isEmpty)
        all_goals simp only [Bool.not_eq_true', Bool.not_eq_false'] at hc1
        · refine wp_region_bw (by kernel_rfl) (by kernel_rfl) ?_
          repeat (go_big_quiet_step (fail))
          refine wpQuiet_nil ?_
          rintro _ ⟨kw, rfl⟩
          clear R0 X0
          replace JB := Lib.hid (JB.out.step kw.below)
          replace HI := Lib.hid (HI.out.step kw.below)
          generalize kw.val = w5 at *
          have k0 := JB.out.cell 0
          have k1 := JB.out.cell 1
          simp at k0 k1
          go_wp2_with (at_builtin; refine wpList_append_any _ rfl _ _ 43 rfl w2.heap.size 45 j0 (.agg #[.string ByteArray.empty, .string ByteArray.empty]) 2 32 Tryz.underlying43 hj0 hy0 hy1 hy2 rfl (by decide) (.slice (some ⟨g, 0, none⟩) (l' + 1) c3) (l' + 1) (flat recB2 (jAll ByteArray.empty (Q.take i))) rfl (HI.out.own.alloc _) _ _ 1 _ (recB2 r) rfl ⟨rfl, fun _ => ⟨_, rfl, Nat.lt_succ_self _, news_at _ _ _⟩⟩ (recB2_one _) (by unfold maxLen; omega) (by omega) (le_alloc HI.out.bel.size _) ?_)
          intro v' w6 hown hgr hat
          have HX : Hid (JnI w2 Q (i + 1) ((l' + 1) + 1) v' w6) := by
            have e : jAll ByteArray.empty (Q.take (i + 1)) = jAll ByteArray.empty (Q.take i) ++ [r] := by
              rw [jAll_take HR.out]
              exact jstep_app (fun qq hq => by
                have h0 := HI.out.ln
                have h1 : (jAll ByteArray.empty (Q.take i))[l']? = some q := HQQ.out
                rw [h0, Nat.add_sub_cancel, h1] at hq
                obtain rfl := Option.some.inj hq
                rintro ⟨h2, _⟩
                exact h2 ((empty_list _).1 (List.isEmpty_iff.1 hc1)))
            refine ⟨?_, (HI.out.bel.alloc HI.out.bel.size _).grown hgr (le_alloc HI.out.bel.size _) (own_ge HI.out.own), ?_⟩
            · rw [e, flat_snoc]; exact hown
            · rw [e, List.length_append, HI.out.ln]; rfl
          clear hown hgr hat k0 k1
          go_wp2_with fail
          go_roundw
          case rel => exact ⟨i + 1, (l' + 1) + 1, by omega, by go_num, HX.out⟩
          case measure => simp [intOf]; omega
        · cases hc2 : (q.2.toList == r.1.toList)
          · refine wp_region_bw (by kernel_rfl) (by kernel_rfl) ?_
            repeat (go_big_quiet_step (fail))
            refine wpQuiet_nil ?_
            rintro _ ⟨kw, rfl⟩
            clear R0 X0
            replace JB := Lib.hid (JB.out.step kw.below)
            replace HI := Lib.hid (HI.out.step kw.below)
            generalize kw.val = w5 at *
            have k0 := JB.out.cell 0
            have k1 := JB.out.cell 1
            simp at k0 k1
            go_wp2_with (at_builtin; refine wpList_append_any _ rfl _ _ 43 rfl w2.heap.size 45 j0 (.agg #[.string ByteArray.empty, .string ByteArray.empty]) 2 32 Tryz.underlying43 hj0 hy0 hy1 hy2 rfl (by decide) (.slice (some ⟨g, 0, none⟩) (l' + 1) c3) (l' + 1) (flat recB2 (jAll ByteArray.empty (Q.take i))) rfl (HI.out.own.alloc _) _ _ 1 _ (recB2 r) rfl ⟨rfl, fun _ => ⟨_, rfl, Nat.lt_succ_self _, news_at _ _ _⟩⟩ (recB2_one _) (by unfold maxLen; omega) (by omega) (le_alloc HI.out.bel.size _) ?_)
            intro v' w6 hown hgr hat
            have HX : Hid (JnI w2 Q (i + 1) ((l' + 1) + 1) v' w6) := by
              have e : jAll ByteArray.empty (Q.take (i + 1)) = jAll ByteArray.empty (Q.take i) ++ [r] := by
                rw [jAll_take HR.out]
                exact jstep_app (fun qq hq => by
                  have h0 := HI.out.ln
                  have h1 : (jAll ByteArray.empty (Q.take i))[l']? = some q := HQQ.out
                  rw [h0, Nat.add_sub_cancel, h1] at hq
                  obtain rfl := Option.some.inj hq
                  rintro ⟨_, h2⟩
                  rw [h2] at hc2
                  simp at hc2)
              refine ⟨?_, (HI.out.bel.alloc HI.out.bel.size _).grown hgr (le_alloc HI.out.bel.size _) (own_ge HI.out.own), ?_⟩
              · rw [e, flat_snoc]; exact hown
              · rw [e, List.length_append, HI.out.ln]; rfl
            clear hown hgr hat k0 k1
            go_wp2_with fail
            go_roundw
            case rel => exact ⟨i + 1, (l' + 1) + 1, by omega, by go_num, HX.out⟩
            case measure => simp [intOf]; omega
          · refine wp_region_bw (by kernel_rfl) (by kernel_rfl) ?_
            repeat (go_big_quiet_step (fail))
            refine wpQuiet_nil ?_
            rintro _ ⟨kw, rfl⟩
            clear R0 X0
            replace JB := Lib.hid (JB.out.step kw.below)
            replace HI := Lib.hid (HI.out.step kw.below)
            generalize kw.val = w5 at *
            have k1 := JB.out.cell 1
            simp at k1
            obtain ⟨q', hq', hqc, hqf⟩ := HI.out.last
            obtain rfl : q = q' := by have := HQQ.out.symm.trans hq'; simpa using this
            clear hq'
            have H1 := Lib.hid hc1
            have H2 := Lib.hid hc2
            go_upto_region 8 with fail
            go_region
            all_goals
              go_wp2_with fail
              go_roundw
              case rel =>
                refine ⟨i + 1, l' + 1, by omega, by go_num, ?_, ?_, ?_⟩
                · have e : jAll ByteArray.empty (Q.take (i + 1)) = (jAll ByteArray.empty (Q.take i)).set l' (q.1, r.2) := by
                    rw [jAll_take HR.out]
                    refine jstep_set HI.out.ln HQQ.out ?_ ((same_list _ _).1 (by simpa using H2.out))
                    intro e
                    have := H1.out
                    rw [e] at this
                    exact absurd (List.isEmpty_iff.2 ((empty_list _).2 rfl)) (by rw [this]; decide)
                  rw [e, ← flat_setB HQQ.out]
                  exact ownB_set HI.out.own _ _
                · exact (Below.setCell (p := ⟨g, l' * 2 + 1, none⟩) HI.out.bel hg _).drew
                · rw [jAll_take HR.out, jstep_set HI.out.ln HQQ.out (by
                    intro e
                    have := H1.out
                    rw [e] at this
                    exact absurd (List.isEmpty_iff.2 ((empty_list _).2 rfl)) (by rw [this]; decide)) ((same_list _ _).1 (by simpa using H2.out)), List.length_set]
                  exact HI.out.ln
              case measure => simp [intOf]; omega
    · obtain rfl : i = m := by omega
      have hq : Q.take i = Q := List.take_of_length_le (by have := HQL.out; omega)
      have HF : Hid (SR 2 recB2 wr A3 l c3 (jAll ByteArray.empty Q)) := by
        obtain ⟨A', c', he, hs⟩ := SR.of_own recB2_length HI.out.own HI.out.ln
        injection he with h1 h2 h3
        subst h1 h3
        rw [hq] at hs
        exact Lib.hid hs
      go_wp2_with fail
      go_ret
      refine ⟨A3, l, c3, S.map Prod.fst, rfl, HS.out, ?_, ?_, ?_⟩
      · rw [← HQ.out]; exact HF.out
      · have := HLM.out; have := HMN.out; have := HN.out; omega
      · exact HB2.out.trans (HI.out.bel.mono (Nat.le_trans HBS.out HB2.out.size))
end Go.Proofs.YtfkapannahcjiaaGreatDoor



/- keyenc.After: the least string above all strings with a prefix. -/
namespace Go.Proofs.YtfkapannahcjiaaGreatDoor
open Go.RowKit

/-- what After hands back -/
noncomputable def afterE (s : ByteArray) : Ending := .returned (.tuple #[.string ((afterB s).getD ByteArray.empty), .bool (afterB s).isSome])
theorem afterE_none {s : ByteArray} (h : stripN s s.size = 0) : afterE s = .returned (.tuple #[.string ByteArray.empty, .bool false]) := by
  unfold afterE afterB
  rw [h]
  rfl
theorem afterE_some {s : ByteArray} {n : Nat} (h : stripN s s.size = n + 1) : afterE s = .returned (.tuple #[.string (s.extract 0 n ++ ⟨#[s.data[n]?.getD 0 + 1]⟩), .bool true]) := by
  unfold afterE afterB
  rw [h]
  rfl
theorem strip_255 {s : ByteArray} {m : Nat} (hm : m < s.size) (h : (s[m]'hm).toNat = 255) : stripN s (m + 1) = stripN s m := by
  have e : s.data[m]? = some 255 := by
    rw [Array.getElem?_eq_some_iff]
    exact ⟨hm, UInt8.toNat_inj.1 h⟩
  conv => lhs; unfold stripN
  rw [if_pos e]
theorem strip_ne {s : ByteArray} {m : Nat} (hm : m < s.size) (h : (s[m]'hm).toNat ≠ 255) : stripN s (m + 1) = m + 1 := by
  have e : ¬ s.data[m]? = some 255 := by
    rw [Array.getElem?_eq_some_iff]
    rintro ⟨_, k⟩
    exact h (congrArg UInt8.toNat k)
  conv => lhs; unfold stripN
  rw [if_neg e]

set_option maxRecDepth 100000 in
set_option maxHeartbeats 1000000 in
theorem after_any (s : ByteArray) (w : World) (hz : s.size ≤ reach) : Calls Tryz.prog 67 #[.string s] w fun e w' => e = afterE s ∧ Below w.heap.size w w' := by
  have HZ : Hid (s.size ≤ reach) := Lib.hid hz
  clear hz
  go_enter Tryz.func67, Tryz.ntmps67
  go_upto_region 2 with fail
  go_loopw [4] (fun v wr => ∃ n : Nat, v = .int .i64 n ∧ n ≤ s.size ∧ stripN s n = stripN s s.size ∧ wr = w) (fun v _ => match v with | .int _ n => n.toNat | _ => 0)
  case atStart => exact ⟨s.size, rfl, Nat.le_refl _, rfl, rfl⟩
  case round =>
    obtain ⟨n, rfl, hn, hs, rfl⟩ := hrel
    have HS := Lib.hid hs
    clear hs
    cases n with
    | zero =>
      go_wp2_with fail
      go_ret2
      exact ⟨(afterE_none (by rw [← HS.out]; rfl)).symm, Below.refl _ _⟩
    | succ m =>
      have HM : Hid (m < s.size) := Lib.hid hn
      have HW : Hid (wrap64 (m : Int) = (m : Int)) := by have := HZ.out; unfold reach at this; exact Lib.hid (by unfold wrap64; omega)
      obtain ⟨x, hx⟩ : ∃ x : Int, ((s[m]'HM.out).toNat : Int) = x := ⟨_, rfl⟩
      by_cases h255 : x = 255
      · subst h255
        have HX := Lib.hid (strip_255 HM.out (by omega))
        have hw := HW.out
        go_wp2_with fail
        refine ⟨⟨m, by rw [hw], by omega, by rw [← HX.out]; exact HS.out, trivial⟩, ?_⟩
        rw [hw]
        show (m : Int).toNat < ((m + 1 : Nat) : Int).toNat
        omega
      · have HX := Lib.hid (strip_ne HM.out (by omega))
        have h1 : (x == 255) = false := by simpa using h255
        clear h255
        have hw := HW.out
        go_wp2_with fail
        obtain ⟨z, hz⟩ : ∃ z : Int, z = (x + 1) % 256 := ⟨_, rfl⟩
        have hcv : (convert 108 9 (.slice (some ⟨wr.heap.size, 0, none⟩) 1 1)).run Tryz.prog ((wr.alloc (Obj.cells #[.int .u8 ((x + 1) % 256)] 5)).drew) = .ok (.string (strOfNums [z])) ((wr.alloc (Obj.cells #[.int .u8 ((x + 1) % 256)] 5)).drew) := by
          rw [← hz]
          refine run_convert_bytes_arg (P := Tryz.prog) _ 108 5 Tryz.underlying108 Tryz.underlying5 wr.heap.size 0 1 1 [z] rfl (fun i hi => ?_) 9 Tryz.underlying9
          obtain rfl : i = 0 := by omega
          exact (Blk.new wr 5 #[.int .u8 z]).drew.cell 0
        obtain ⟨Z, hZ⟩ : ∃ Z, Z = strOfNums [z] := ⟨_, rfl⟩
        rw [← hZ] at hcv
        have hZs : Z.size = 1 := by rw [hZ, strOfNums_size]; rfl
        have hcat : ∀ w2 : World, (Op.stringOp .add (s.extract 0 m) Z).run Tryz.prog w2 = .ok (.string (s.extract 0 m ++ Z)) w2 := fun w2 => run_string_add_sum _ _ _ (by
          have h1 := HZ.out
          have h2 := HM.out
          unfold reach at h1
          rw [hZs, ByteArray.size_extract]
          omega)
        clear hZs
        have HZ2 := Lib.hid hZ
        have HZZ := Lib.hid hz
        clear hz hZ
        have HX1 := Lib.hid hx
        go_region
        all_goals
          go_wp2_with fail
          go_ret2
          refine ⟨?_, ((Below.refl _ _).alloc (Nat.le_refl _) _).drew⟩
          have hb := (s[m]'HM.out).toNat_lt
          have hx1 := HX1.out
          have hat : s.data[m]?.getD 0 = s[m]'HM.out := by
            rw [Array.getElem?_eq_getElem (show m < s.data.size from HM.out)]
            rfl
          rw [afterE_some (show stripN s s.size = m + 1 by rw [← HS.out]; exact HX.out), hat, HZ2.out, HZZ.out]
          have hne : x ≠ 255 := by simpa using h1
          have e : strOfNums [(x + 1) % 256] = ⟨#[s[m]'HM.out + 1]⟩ := by
            apply ByteArray.ext
            apply Array.toList_inj.1
            rw [strOfNums_data]
            simp only [List.map_cons, List.map_nil]
            have : UInt8.ofNat ((x + 1) % 256).toNat = s[m]'HM.out + 1 := by
              apply UInt8.toNat_inj.1
              rw [UInt8.toNat_ofNat', UInt8.toNat_add]
              have : (1 : UInt8).toNat = 1 := rfl
              rw [this]
              omega
            rw [this]
          rw [e]
          rfl
end Go.Proofs.YtfkapannahcjiaaGreatDoor



/- The least string above a prefix, by the last byte below 255. Plain law. -/
namespace Go.Proofs.YtfkapannahcjiaaGreatDoor

theorem afterL_255 : ∀ l : List Int, afterL (l ++ [255]) = afterL l
  | [] => by simp [afterL]
  | y :: r => by rw [List.cons_append, afterL, afterL, afterL_255 r]
theorem afterL_snoc {x : Int} (hx : x ≠ 255) : ∀ l : List Int, afterL (l ++ [x]) = some (l ++ [x + 1])
  | [] => by simp [afterL, hx]
  | y :: r => by rw [List.cons_append, afterL, afterL_snoc hx r]; rfl
theorem strN_at {s : ByteArray} {i : Nat} {x : UInt8} (h : s.data[i]? = some x) : (strN s)[i]? = some (x.toNat : Int) := by
  unfold strN
  rw [List.getElem?_map, Array.getElem?_toList, h]
  rfl
/-- the loop's way -/
def cutAt (s : ByteArray) : Nat → Option (List Int)
  | 0 => none
  | n + 1 => some ((strN s).take n ++ [((s.data[n]?.getD 0).toNat : Int) + 1])
theorem afterL_strip (s : ByteArray) : ∀ n, n ≤ s.size → afterL ((strN s).take n) = cutAt s (stripN s n)
  | 0, _ => by simp [afterL, stripN, cutAt]
  | n + 1, h => by
    obtain ⟨x, hx⟩ : ∃ x, s.data[n]? = some x := ⟨s.data[n]'(by have : s.data.size = s.size := rfl; omega), by rw [Array.getElem?_eq_some_iff]; exact ⟨_, rfl⟩⟩
    have hN := strN_at hx
    have e : (strN s).take (n + 1) = (strN s).take n ++ [(x.toNat : Int)] := by rw [List.take_add_one, hN]; rfl
    have ih := afterL_strip s n (by omega)
    unfold stripN
    by_cases h255 : x = 255
    · rw [hx, if_pos (by rw [h255]), e, h255]
      exact (afterL_255 _).trans ih
    · have hn : (x.toNat : Int) ≠ 255 := by
        intro k
        apply h255
        apply UInt8.toNat_inj.1
        have : (255 : UInt8).toNat = 255 := rfl
        omega
      rw [hx, if_neg (by simpa using h255), e, afterL_snoc hn]
      show _ = some ((strN s).take n ++ [((s.data[n]?.getD 0).toNat : Int) + 1])
      rw [hx]
      rfl
theorem after_strip (s : ByteArray) : afterL (strN s) = cutAt s (stripN s s.size) := by
  have := afterL_strip s s.size (Nat.le_refl _)
  rwa [List.take_of_length_le (by rw [strN_len]; omega)] at this
theorem strOf_take (s : ByteArray) (n : Nat) : strOfNums ((strN s).take n) = s.extract 0 n := by
  apply ByteArray.ext
  apply Array.toList_inj.1
  rw [strOfNums_data, ByteArray.data_extract, Array.toList_extract]
  have := congrArg (fun b => b.data.toList) (strOfNums_strN s)
  simp only [strOfNums_data] at this
  rw [List.map_take, this, List.extract_eq_take_drop]
  simp
theorem strOf_byte (x : UInt8) (h : x ≠ 255) : strOfNums [(x.toNat : Int) + 1] = ⟨#[x + 1]⟩ := by
  have hx : x.toNat + 1 < 256 := by
    have h1 := x.toNat_lt
    have : x.toNat ≠ 255 := fun k => h (UInt8.toNat_inj.1 k)
    omega
  apply ByteArray.ext
  apply Array.toList_inj.1
  rw [strOfNums_data]
  simp only [List.map_cons, List.map_nil]
  have : UInt8.ofNat ((x.toNat : Int) + 1).toNat = x + 1 := by
    apply UInt8.toNat_inj.1
    rw [UInt8.toNat_ofNat', UInt8.toNat_add]
    have : (1 : UInt8).toNat = 1 := rfl
    rw [this]
    congr 1
  rw [this]
theorem strip_at {s : ByteArray} : ∀ {n m : Nat}, stripN s n = m + 1 → s.data[m]? ≠ some 255
  | 0, m, h => by simp [stripN] at h
  | n + 1, m, h => by
    unfold stripN at h
    split at h
    · exact strip_at h
    · rename_i k
      obtain rfl : n = m := by omega
      exact k
/-- the string above a prefix, and its list -/
theorem afterB_eq (s : ByteArray) : afterB s = (afterL (strN s)).map strOfNums := by
  rw [after_strip]
  unfold afterB
  cases h : stripN s s.size with
  | zero => rfl
  | succ n =>
    have hle := stripN_le s s.size
    have hat := strip_at h
    obtain ⟨x, hx⟩ : ∃ x, s.data[n]? = some x := ⟨s.data[n]'(by have : s.data.size = s.size := rfl; omega), by rw [Array.getElem?_eq_some_iff]; exact ⟨_, rfl⟩⟩
    unfold cutAt
    simp only [hx, Option.getD_some, Option.map_some, Option.some.injEq]
    rw [strOfNums_append, strOf_take, strOf_byte x fun k => hat (by rw [hx, k])]
end Go.Proofs.YtfkapannahcjiaaGreatDoor



/- shardkey.span and hashed at any interval of a normal form. -/
namespace Go.Proofs.YtfkapannahcjiaaGreatDoor
open Go.RowKit
set_option linter.unusedSimpArgs false

set_option maxRecDepth 100000 in
set_option maxHeartbeats 16000000 in
theorem span_gen (p : PI) (S1 S2 T1 T2 KL KH : ByteArray) (w : World) (hT : Tabs w) (hp : okI w p) (h1 : keyR [p.1.1.2] = (S1, 0)) (h2 : keyR [p.1.2.2] = (S2, 0))
    (hlo : ((p.1.1.1.k == 1) = true ∧ p.2.1 = true ∧ KL = ByteArray.empty) ∨ ((p.1.1.1.k == 1) = false ∧ p.2.1 = true ∧ KL = S1) ∨ ((p.1.1.1.k == 1) = true ∧ p.2.1 = false ∧ KL = T1) ∨ ((p.1.1.1.k == 1) = false ∧ p.2.1 = false ∧ KL = T1))
    (hhi : ((p.1.2.1.k == 11) = true ∧ p.2.2 = true ∧ KH = ByteArray.empty) ∨ ((p.1.2.1.k == 11) = false ∧ p.2.2 = true ∧ KH = T2) ∨ ((p.1.2.1.k == 11) = true ∧ p.2.2 = false ∧ KH = S2) ∨ ((p.1.2.1.k == 11) = false ∧ p.2.2 = false ∧ KH = S2))
    (hA1 : ∀ w, Calls Tryz.prog 67 #[.string S1] w fun e w' => e = .returned (.tuple #[.string T1, .bool true]) ∧ Below w.heap.size w w')
    (hA2 : ∀ w, Calls Tryz.prog 67 #[.string S2] w fun e w' => e = .returned (.tuple #[.string T2, .bool true]) ∧ Below w.heap.size w w') :
    Calls Tryz.prog 24 #[aggI p, .bool false] w fun e w' => e = .returned (.tuple #[.agg #[.string KL, .string KH], .bool true]) ∧ Below w.heap.size w w' := by
  obtain ⟨⟨⟨c1, x1⟩, ⟨c2, x2⟩⟩, ⟨f1, f2⟩⟩ := p
  have R1 : Hid (RW w c1 x1) := hp.1
  have R2 : Hid (RW w c2 x2) := hp.2
  have HT := Lib.hid hT
  have HA1 := Lib.hid hA1
  have HA2 := Lib.hid hA2
  have HK1 : Hid (keyR [x1] = (S1, 0)) := h1
  have HK2 : Hid (keyR [x2] = (S2, 0)) := h2
  have HLO := Lib.hid hlo
  have HHI := Lib.hid hhi
  clear hp hT hA1 hA2 h1 h2 hlo hhi
  have hcode1 : Hid (∀ wr, Below w.heap.size w wr → Calls Tryz.prog 53 #[c1.val] wr fun e w' => e = .returned (.tuple #[.string S1, .int .i64 0]) ∧ Below wr.heap.size wr w') := Lib.hid fun wr hb => by
    have := code_any x1 c1 wr (HT.out.step hb) (R1.out.step hb)
    rw [HK1.out] at this
    exact this
  have hcode2 : Hid (∀ wr, Below w.heap.size w wr → Calls Tryz.prog 53 #[c2.val] wr fun e w' => e = .returned (.tuple #[.string S2, .int .i64 0]) ∧ Below wr.heap.size wr w') := Lib.hid fun wr hb => by
    have := code_any x2 c2 wr (HT.out.step hb) (R2.out.step hb)
    rw [HK2.out] at this
    exact this
  have B0 : Hid (Blk ((w.alloc (Obj.cells (arrI (((c1, x1), (c2, x2)), (f1, f2))) 67)).alloc (Obj.cells #[.string ByteArray.empty, .string ByteArray.empty] 45)) w.heap.size 67 (arrI (((c1, x1), (c2, x2)), (f1, f2)))) := (Blk.new_at rfl).alloc _
  have B1 : Hid (Blk ((w.alloc (Obj.cells (arrI (((c1, x1), (c2, x2)), (f1, f2))) 67)).alloc (Obj.cells #[.string ByteArray.empty, .string ByteArray.empty] 45)) (w.heap.size + 1) 45 #[.string ByteArray.empty, .string ByteArray.empty]) := Blk.new_at (by simp)
  have BE : Hid (Below w.heap.size w ((w.alloc (Obj.cells (arrI (((c1, x1), (c2, x2)), (f1, f2))) 67)).alloc (Obj.cells #[.string ByteArray.empty, .string ByteArray.empty] 45))) := ((Below.refl _ _).alloc (Nat.le_refl _) _).alloc (by simp) _
  go_enter Tryz.func24, Tryz.ntmps24
  go_upto_region 1 with fail
  change Code.wp _ _ _ _ ((w.alloc (Obj.cells (arrI (((c1, x1), (c2, x2)), (f1, f2))) 67)).alloc (Obj.cells #[.string ByteArray.empty, .string ByteArray.empty] 45))
  generalize ((w.alloc (Obj.cells (arrI (((c1, x1), (c2, x2)), (f1, f2))) 67)).alloc (Obj.cells #[.string ByteArray.empty, .string ByteArray.empty] 45)) = wa at *
  obtain ⟨⟨a0, a1, a2, a3, a4⟩, ⟨b0, b1, b2, b3, b4⟩, b5, b6⟩ := IAt.of_blk B0.out
  simp only [Nat.zero_add] at a0 a1 a2 a3 a4 b0 b1 b2 b3 b4 b5 b6
  go_wp2_with fail
  refine (hcode1.out _ BE.out).mono ?_
  rintro e w1 ⟨rfl, hb⟩
  replace B0 := Lib.hid (B0.out.step hb)
  replace B1 := Lib.hid (B1.out.step hb)
  replace BE := Lib.hid (BE.out.step' hb)
  clear hb a0 a1 a2 a3 a4 b0 b1 b2 b3 b4 b5 b6 hcode1
  obtain ⟨⟨a0, a1, a2, a3, a4⟩, ⟨b0, b1, b2, b3, b4⟩, b5, b6⟩ := IAt.of_blk B0.out
  simp only [Nat.zero_add] at a0 a1 a2 a3 a4 b0 b1 b2 b3 b4 b5 b6
  go_wp2_with fail
  refine (hcode2.out _ BE.out).mono ?_
  rintro e w2 ⟨rfl, hb⟩
  replace B0 := Lib.hid (B0.out.step hb)
  replace B1 := Lib.hid (B1.out.step hb)
  replace BE := Lib.hid (BE.out.step' hb)
  clear hb a0 a1 a2 a3 a4 b0 b1 b2 b3 b4 b5 b6 hcode2
  obtain ⟨⟨a0, a1, a2, a3, a4⟩, ⟨b0, b1, b2, b3, b4⟩, b5, b6⟩ := IAt.of_blk B0.out
  simp only [Nat.zero_add] at a0 a1 a2 a3 a4 b0 b1 b2 b3 b4 b5 b6
  have r0 := B1.out.cell 0
  have r1 := B1.out.cell 1
  have rz := B1.out.frozen
  simp at r0 r1
  rcases HLO.out with ⟨kb1, rfl, rfl⟩ | ⟨kb1, rfl, rfl⟩ | ⟨kb1, rfl, rfl⟩ | ⟨kb1, rfl, rfl⟩
  all_goals
    (try simp only at kb1)
    clear HLO
    rcases HHI.out with ⟨kb2, rfl, rfl⟩ | ⟨kb2, rfl, rfl⟩ | ⟨kb2, rfl, rfl⟩ | ⟨kb2, rfl, rfl⟩
    all_goals
      (try simp only at kb2)
      clear HHI
      go_wp2_with (go_at_call 67; (first | with_reducible refine (HA1.out _).mono ?_ | with_reducible refine (HA2.out _).mono ?_); rintro e w3 ⟨rfl, hb⟩; replace B0 := Lib.hid (B0.out.step hb); replace B1 := Lib.hid (B1.out.step hb); replace BE := Lib.hid (BE.out.step' hb); clear hb a0 a1 a2 a3 a4 b0 b1 b2 b3 b4 b5 b6 r0 r1 rz; obtain ⟨⟨a0, a1, a2, a3, a4⟩, ⟨b0, b1, b2, b3, b4⟩, b5, b6⟩ := IAt.of_blk B0.out; simp only [Nat.zero_add] at a0 a1 a2 a3 a4 b0 b1 b2 b3 b4 b5 b6; have r0 := B1.out.cell 0; have r1 := B1.out.cell 1; have rz := B1.out.frozen; simp at r0 r1)
      refine bodyPost_ret (results_pair_ok rfl _ _ _ rfl _ rfl _ _ _ (((B1.out.set_ 0 _).set_ 1 _).cell 0 |>.trans rfl) (((B1.out.set_ 0 _).set_ 1 _).cell 1 |>.trans rfl)) rfl ⟨rfl, (BE.out.setCell (by show w.heap.size ≤ w.heap.size + 1; omega) _).setCell (by show w.heap.size ≤ w.heap.size + 1; omega) _⟩
end Go.Proofs.YtfkapannahcjiaaGreatDoor



/- shardkey.span at an interval of a normal form; hashed. -/
namespace Go.Proofs.YtfkapannahcjiaaGreatDoor
open Go.RowKit

theorem cmp_kind {x y : Val} (h : x.k = y.k) (hk : x.k = 1 ∨ x.k = 11) : cmpV x y = 0 := by
  rw [cmpV_eq, if_neg (fun k => k h), if_neg (by omega), if_neg (by omega), if_neg (by omega), if_neg (by omega)]
theorem kind_min {x : Val} (h : validV x = true) (hk : x.k = 1) : x = vMin :=
  congrArg Prod.fst (lin_cut.eq (x, false) (vMin, false) h valid_min ((cmC_zero (cmp_kind (by rw [hk]; rfl) (.inl hk))).trans rfl))
theorem kind_max {x : Val} (h : validV x = true) (hk : x.k = 11) : x = vMax :=
  congrArg Prod.fst (lin_cut.eq (x, false) (vMax, false) h valid_max ((cmC_zero (cmp_kind (by rw [hk]; rfl) (.inr hk))).trans rfl))
theorem strN_str {l : List Int} (h : Rng l) : strN (strOfNums l) = l := str_back h
theorem afterE_list {l t : List Int} (h : Rng l) (ht : afterL l = some t) : afterE (strOfNums l) = .returned (.tuple #[.string (strOfNums t), .bool true]) := by
  unfold afterE
  rw [afterB_eq, strN_str h, ht]
  rfl
theorem span_nf (p : PI) (s : Cut × Cut) (w : World) (hT : Tabs w) (hp : okI w p) (hs : ivP p = ivOf s) (v1 : VO s.1) (v2 : VO s.2) :
    Calls Tryz.prog 24 #[aggI p, .bool false] w fun e w' => e = .returned (.tuple #[.agg #[.string (keyP s).1, .string (keyP s).2], .bool true]) ∧ Below w.heap.size w w' := by
  obtain ⟨⟨x1, i1⟩, ⟨x2, i2⟩⟩ := s
  obtain ⟨⟨⟨c1, y1⟩, ⟨c2, y2⟩⟩, ⟨f1, f2⟩⟩ := p
  simp only [ivP, ivOf, Iv.mk.injEq] at hs
  obtain ⟨rfl, rfl, rfl, rfl⟩ := hs
  obtain ⟨t1, ht1⟩ := v1.after
  obtain ⟨t2, ht2⟩ := v2.after
  have k1 : c1.k = y1.k := hp.1.open.k
  have k2 : c2.k = y2.k := hp.2.open.k
  have z1 : (strOfNums (encV y1)).size ≤ reach := by
    have := (allow_enc (vallow v1.1)).2
    rw [strOfNums_size]; unfold reach; simp only at this; omega
  have z2 : (strOfNums (encV y2)).size ≤ reach := by
    have := (allow_enc (vallow v2.1)).2
    rw [strOfNums_size]; unfold reach; simp only at this; omega
  refine span_gen (((c1, y1), (c2, y2)), (!i1, f2)) (strOfNums (encV y1)) (strOfNums (encV y2)) (strOfNums t1) (strOfNums t2) _ _ w hT hp (keyR_one_yes (vallow v1.1)) (keyR_one_yes (vallow v2.1)) ?_ ?_ (fun w => ?_) (fun w => ?_)
  · simp only
    rw [k1]
    show _ ∨ _
    by_cases hk : y1.k = 1
    · have hb : (y1.k == 1) = true := by simpa using hk
      cases i1
      · refine .inl ⟨hb, rfl, ?_⟩
        show keyLo (y1, false) = _
        have e := kind_min (x := y1) v1.1 hk
        rw [e]
        exact if_pos rfl
      · refine .inr (.inr (.inl ⟨hb, rfl, ?_⟩))
        show keyLo (y1, true) = _
        unfold keyLo
        rw [if_neg (by simp)]
        unfold endL
        rw [if_pos rfl, ht1]; rfl
    · have hb : (y1.k == 1) = false := by simpa using hk
      cases i1
      · refine .inr (.inl ⟨hb, rfl, ?_⟩)
        show keyLo (y1, false) = _
        unfold keyLo
        rw [if_neg (by intro e; simp only [Prod.mk.injEq, and_true] at e; rw [e] at hk; exact hk rfl)]
        rfl
      · refine .inr (.inr (.inr ⟨hb, rfl, ?_⟩))
        show keyLo (y1, true) = _
        unfold keyLo
        rw [if_neg (by simp)]
        unfold endL
        rw [if_pos rfl, ht1]; rfl
  · simp only
    rw [k2]
    by_cases hk : y2.k = 11
    · have hb : (y2.k == 11) = true := by simpa using hk
      cases f2
      · refine .inr (.inr (.inl ⟨hb, rfl, ?_⟩))
        show keyHi (y2, false) = _
        unfold keyHi
        rw [if_neg (by simp)]
        rfl
      · refine .inl ⟨hb, rfl, ?_⟩
        show keyHi (y2, true) = _
        have e := kind_max (x := y2) v2.1 hk
        rw [e]
        exact if_pos rfl
    · have hb : (y2.k == 11) = false := by simpa using hk
      cases f2
      · refine .inr (.inr (.inr ⟨hb, rfl, ?_⟩))
        show keyHi (y2, false) = _
        unfold keyHi
        rw [if_neg (by simp)]
        rfl
      · refine .inr (.inl ⟨hb, rfl, ?_⟩)
        show keyHi (y2, true) = _
        unfold keyHi
        rw [if_neg (by intro e; simp only [Prod.mk.injEq, and_true] at e; rw [e] at hk; exact hk rfl)]
        unfold endL
        rw [if_pos rfl, ht2]; rfl
  · have := after_any (strOfNums (encV y1)) w z1
    rw [afterE_list v1.rng ht1] at this
    exact this
  · have := after_any (strOfNums (encV y2)) w z2
    rw [afterE_list v2.rng ht2] at this
    exact this

theorem enc_hashL (x : Val) : encV (intH x) = hashL (hashV x) := by
  rw [encV_eq]
  rfl
set_option maxRecDepth 100000 in
set_option maxHeartbeats 2000000 in
theorem hashed_any (x : Val) (c : VC) (w : World) (hT : Tabs w) (h : RW w c x) :
    Calls Tryz.prog 66 #[c.val] w fun e w' => e = .returned (.tuple #[.string (strOfNums (hashL (hashV x))), .int .i64 0]) ∧ Below w.heap.size w w' := by
  have H := Lib.hid h
  have HT := Lib.hid hT
  clear h hT
  obtain ⟨hv, hhv⟩ : ∃ hv, hv = hashV x := ⟨_, rfl⟩
  rw [← hhv]
  have HHV := Lib.hid hhv
  clear hhv
  have B0 : Hid (Blk (w.alloc (Obj.cells c.arr 29)) w.heap.size 29 c.arr) := Blk.new_at rfl
  have BE := Lib.hid ((Below.refl w.heap.size w).alloc (Nat.le_refl _) (Obj.cells c.arr 29))
  go_enter Tryz.func66, Tryz.ntmps66
  go_upto_region 1 with fail
  change Code.wp _ _ _ _ (w.alloc (Obj.cells c.arr 29))
  generalize w.alloc (Obj.cells c.arr 29) = wa at *
  obtain ⟨q0, q1, q2, q3, q4⟩ := VAt.of_blk B0.out
  simp only [Nat.zero_add] at q0 q1 q2 q3 q4
  have K1 := Lib.hid (hash_any x c wa (HT.out.step BE.out) (H.out.step BE.out))
  rw [← HHV.out] at K1
  have K2 : Hid (∀ wr, Below w.heap.size w wr → Calls Tryz.prog 53 #[.agg #[.int .i64 3, .int .i64 hv, .string ByteArray.empty, .slice none 0 0, .slice none 0 0]] wr fun e w' => e = .returned (.tuple #[.string (strOfNums (hashL hv)), .int .i64 0]) ∧ Below wr.heap.size wr w') := Lib.hid fun wr hb => by
    have := code_any (intH x) (intC x) wr (HT.out.step hb) (rv_int x)
    rw [keyR_one_yes (vallow (vint x)), enc_hashL] at this
    rw [HHV.out]
    exact this
  go_wp2_with fail
  refine K1.out.mono ?_
  rintro e w1 ⟨rfl, hb⟩
  replace BE := Lib.hid (BE.out.step' hb)
  clear hb q0 q1 q2 q3 q4
  go_wp2_with fail
  refine (K2.out _ BE.out).mono ?_
  rintro e w2 ⟨rfl, hb⟩
  replace BE := Lib.hid (BE.out.step' hb)
  clear hb
  go_wp2_with fail
  go_ret2
  exact ⟨rfl, BE.out⟩
set_option maxRecDepth 100000 in
set_option maxHeartbeats 4000000 in
theorem span_hash (p : PI) (w : World) (hT : Tabs w) (hp : okI w p) :
    Calls Tryz.prog 24 #[aggI p, .bool true] w fun e w' => e = .returned (.tuple #[.agg #[.string (keyH (hashV p.1.1.2)).1, .string (keyH (hashV p.1.1.2)).2], .bool true]) ∧ Below w.heap.size w w' := by
  obtain ⟨⟨⟨c1, x1⟩, ⟨c2, x2⟩⟩, ⟨f1, f2⟩⟩ := p
  have R1 : Hid (RW w c1 x1) := hp.1
  have HT := Lib.hid hT
  clear hp hT
  obtain ⟨t, ht⟩ := hash_after (hashV x1)
  have hK : Hid (keyH (hashV x1) = (strOfNums (hashL (hashV x1)), strOfNums t)) := by unfold Hid keyH; rw [ht]; rfl
  have hA : Hid (∀ w, Calls Tryz.prog 67 #[.string (strOfNums (hashL (hashV x1)))] w fun e w' => e = .returned (.tuple #[.string (strOfNums t), .bool true]) ∧ Below w.heap.size w w') := Lib.hid fun w => by
    have := after_any (strOfNums (hashL (hashV x1))) w (by rw [strOfNums_size]; unfold reach hashL; simp [nums, numsTo_len])
    rw [afterE_list (hash_rng _) ht] at this
    exact this
  have hH : Hid (∀ wr, Below w.heap.size w wr → Calls Tryz.prog 66 #[c1.val] wr fun e w' => e = .returned (.tuple #[.string (strOfNums (hashL (hashV x1))), .int .i64 0]) ∧ Below wr.heap.size wr w') := Lib.hid fun wr hb => hashed_any x1 c1 wr (HT.out.step hb) (R1.out.step hb)
  clear ht
  simp only
  rw [hK.out]
  obtain ⟨S1, hS1⟩ : ∃ S, S = strOfNums (hashL (hashV x1)) := ⟨_, rfl⟩
  obtain ⟨T1, hT1⟩ : ∃ S, S = strOfNums t := ⟨_, rfl⟩
  rw [← hS1] at hH hA ⊢
  rw [← hT1] at hA ⊢
  clear hS1 hT1 hK
  have B0 : Hid (Blk ((w.alloc (Obj.cells (arrI (((c1, x1), (c2, x2)), (f1, f2))) 67)).alloc (Obj.cells #[.string ByteArray.empty, .string ByteArray.empty] 45)) w.heap.size 67 (arrI (((c1, x1), (c2, x2)), (f1, f2)))) := (Blk.new_at rfl).alloc _
  have B1 : Hid (Blk ((w.alloc (Obj.cells (arrI (((c1, x1), (c2, x2)), (f1, f2))) 67)).alloc (Obj.cells #[.string ByteArray.empty, .string ByteArray.empty] 45)) (w.heap.size + 1) 45 #[.string ByteArray.empty, .string ByteArray.empty]) := Blk.new_at (by simp)
  have BE : Hid (Below w.heap.size w ((w.alloc (Obj.cells (arrI (((c1, x1), (c2, x2)), (f1, f2))) 67)).alloc (Obj.cells #[.string ByteArray.empty, .string ByteArray.empty] 45))) := ((Below.refl _ _).alloc (Nat.le_refl _) _).alloc (by simp) _
  go_enter Tryz.func24, Tryz.ntmps24
  go_upto_region 1 with fail
  change Code.wp _ _ _ _ ((w.alloc (Obj.cells (arrI (((c1, x1), (c2, x2)), (f1, f2))) 67)).alloc (Obj.cells #[.string ByteArray.empty, .string ByteArray.empty] 45))
  generalize ((w.alloc (Obj.cells (arrI (((c1, x1), (c2, x2)), (f1, f2))) 67)).alloc (Obj.cells #[.string ByteArray.empty, .string ByteArray.empty] 45)) = wa at *
  obtain ⟨⟨a0, a1, a2, a3, a4⟩, _, _, _⟩ := IAt.of_blk B0.out
  simp only [Nat.zero_add] at a0 a1 a2 a3 a4
  go_wp2_with fail
  refine (hH.out _ BE.out).mono ?_
  rintro e w1 ⟨rfl, hb⟩
  replace B1 := Lib.hid (B1.out.step hb)
  replace BE := Lib.hid (BE.out.step' hb)
  clear hb a0 a1 a2 a3 a4 hH B0
  go_wp2_with fail
  refine (hA.out _).mono ?_
  rintro e w2 ⟨rfl, hb⟩
  replace B1 := Lib.hid (B1.out.step hb)
  replace BE := Lib.hid (BE.out.step' hb)
  clear hb hA
  have r0 := B1.out.cell 0
  have r1 := B1.out.cell 1
  have rz := B1.out.frozen
  simp at r0 r1
  go_wp2_with fail
  refine bodyPost_ret (results_pair_ok rfl _ _ _ rfl _ rfl _ _ _ (((B1.out.set_ 0 _).set_ 1 _).cell 0 |>.trans rfl) (((B1.out.set_ 0 _).set_ 1 _).cell 1 |>.trans rfl)) rfl ⟨rfl, (BE.out.setCell (by show w.heap.size ≤ w.heap.size + 1; omega) _).setCell (by show w.heap.size ≤ w.heap.size + 1; omega) _⟩
end Go.Proofs.YtfkapannahcjiaaGreatDoor



/- What an operator on the path stands for, case by case; values that are nothing but a kind, a number and a text. -/
namespace Go.Proofs.YtfkapannahcjiaaGreatDoor
open Go.RowKit

theorem leafS_some {op n : Int} {arg : Val} {args : List Val} {r : List Iv × Bool} (h : leafI op arg args n = some r) : leafS op arg args n = (fun a => inS cmC a (spansL r.1), r.2) := by unfold leafS; rw [h]
theorem leafS_none {op n : Int} {arg : Val} {args : List Val} (h : leafI op arg args n = none) : leafS op arg args n = (allS, false) := by unfold leafS; rw [h]
theorem leafI_eq {n : Int} {arg : Val} {args : List Val} (h : arg.k ≠ 6) : leafI 2 arg args n = some ([ptIv arg], decide (arg.k ≠ 2)) := by
  unfold leafI
  rw [if_pos rfl, if_neg h]
theorem leafI_eq6 {n : Int} {arg : Val} {args : List Val} (h : arg.k = 6) : leafI 2 arg args n = none := by
  unfold leafI
  rw [if_pos rfl, if_pos h]
theorem leafI_cmp {op n : Int} {arg : Val} {args : List Val} (ho : op = 4 ∨ op = 5 ∨ op = 6 ∨ op = 7) (h : arg.k ≠ 6) : leafI op arg args n = some ([limI op arg], decide (arg.k ≠ 2)) := by
  unfold leafI
  rw [if_neg (by omega), if_pos ho, if_neg h]
theorem leafI_cmp6 {op n : Int} {arg : Val} {args : List Val} (ho : op = 4 ∨ op = 5 ∨ op = 6 ∨ op = 7) (h : arg.k = 6) : leafI op arg args n = none := by
  unfold leafI
  rw [if_neg (by omega), if_pos ho, if_pos h]
theorem leafI_in {n : Int} {arg : Val} {args : List Val} (h : ¬ ∃ x ∈ args, x.k = 6) : leafI 8 arg args n = some (args.map ptIv, decide (¬ ∃ x ∈ args, x.k = 2)) := by
  unfold leafI
  rw [if_neg (by omega), if_neg (by omega), if_pos rfl, if_neg h]
theorem leafI_in6 {n : Int} {arg : Val} {args : List Val} (h : ∃ x ∈ args, x.k = 6) : leafI 8 arg args n = none := by
  unfold leafI
  rw [if_neg (by omega), if_neg (by omega), if_pos rfl, if_pos h]
theorem leafI_pre {n : Int} {arg : Val} {args : List Val} : leafI 16 arg args n = some ([(preI arg).1], (preI arg).2) := by
  unfold leafI
  rw [if_neg (by omega), if_neg (by omega), if_neg (by omega), if_pos rfl]
theorem leafI_kind {n : Int} {arg : Val} {args : List Val} (h : n ≠ 6) : leafI 11 arg args n = some ([rangeI n], decide (n ≠ 2)) := by
  unfold leafI
  rw [if_neg (by omega), if_neg (by omega), if_neg (by omega), if_neg (by omega), if_pos rfl, if_neg h]
theorem leafI_kind6 {arg : Val} {args : List Val} : leafI 11 arg args 6 = none := by
  unfold leafI
  rw [if_neg (by omega), if_neg (by omega), if_neg (by omega), if_neg (by omega), if_pos rfl, if_pos rfl]
theorem leafI_other {op n : Int} {arg : Val} {args : List Val} (h : op ≠ 2 ∧ op ≠ 4 ∧ op ≠ 5 ∧ op ≠ 6 ∧ op ≠ 7 ∧ op ≠ 8 ∧ op ≠ 16 ∧ op ≠ 11) : leafI op arg args n = none := by
  unfold leafI
  rw [if_neg (by omega), if_neg (by omega), if_neg (by omega), if_neg (by omega), if_neg (by omega)]

/-- the cells of a value that is nothing but a kind, a number and a text -/
abbrev cLf (k n : Int) (t : ByteArray) : VC := ⟨k, n, t, none, 0, 0, none, 0, 0⟩
theorem rw_leaf (w : World) (k n : Int) {t : ByteArray} (h : t.size ≤ reach) : RW w (cLf k n t) (.mk k n t [] []) :=
  RVs.shut ⟨rfl, rfl, rfl, h, rfl, Nat.le_refl _, by show 0 * 80 ≤ reach; decide, fun h => absurd h (by show ¬ 0 < 0; omega), rfl, Nat.le_refl _, by show 0 * 96 ≤ reach; decide, fun h => absurd h (by show ¬ 0 < 0; omega)⟩
end Go.Proofs.YtfkapannahcjiaaGreatDoor



/- bounds.kindRange and limited. -/
namespace Go.Proofs.YtfkapannahcjiaaGreatDoor
open Go.RowKit
set_option linter.unusedSimpArgs false

theorem Blk.cast9 {w : World} {g : Nat} {t : TypeId} {cs : Array Value} (h : ∃ c, Blk w g t c ∧ c = cs) : Blk w g t cs := by obtain ⟨c, h, rfl⟩ := h; exact h
theorem wpl_name {P : Program} {ops : Array Oper} {Q : Exit → Act → World → Prop} {l : List Oper} {a : Act} {w : World} (h : ∀ w', w' = w → wpList P ops Q l a w') : wpList P ops Q l a w := h w rfl
theorem iv_there {w : World} {g : Nat} {t : TypeId} {cs : Array Value} (h : Blk w g t cs) {o n : Nat} (hz : o + n ≤ cs.size) : w.there g o n := fun j hj => by
  refine ⟨?_, h.frozen _⟩
  rw [h.cell, Array.getElem?_eq_getElem (by omega)]
  rfl
theorem putLo {w : World} {g : Nat} {p : PI} (h : Blk w g 67 (arrI p)) (c : VC) (x : Val) : Blk (w.setCells g 0 c.arr.toList) g 67 (arrI (((c, x), p.1.2), p.2)) := Blk.setCells c.list 0 (l := recI p) h
theorem putHi {w : World} {g : Nat} {p : PI} (h : Blk w g 67 (arrI p)) (c : VC) (x : Val) : Blk (w.setCells g 5 c.arr.toList) g 67 (arrI ((p.1.1, (c, x)), p.2)) := Blk.setCells c.list 5 (l := recI p) h
theorem blk_far9 {w : World} {g b : Nat} {t : TypeId} {cs : Array Value} (h : Blk w b t cs) (hne : b ≠ g) (vs : List Value) (o : Nat) : Blk (w.setCells g o vs) b t cs := (heap_setCells g vs o w b hne).trans h
theorem bel_cells9 {B : Nat} {a w : World} (h : Below B a w) {g : Nat} (hg : B ≤ g) (vs : List Value) (o : Nat) : Below B a (w.setCells g o vs) := by
  induction vs generalizing w o with
  | nil => exact h
  | cons v r ih => exact ih (Below.setCell (p := ⟨g, o, none⟩) h hg v) (o + 1)
theorem wpl_putHi {ops : Array Oper} {rest : List Oper} {o : Oper} {a : Act} {w W : World} {Q : Exit → Act → World → Prop} {B g g0 g2 : Nat} {p : PI} {c : VC} {cs0 cs2 : Array Value} (hgd : o.guard = none) (x y : Operand) (ho : o.op = .store 29 x y)
    (hx : a.eval x = .pointer (some ⟨g, 5, none⟩)) (hy : a.eval y = .agg c.arr) (h1 : Blk w g 67 (arrI p)) (h0 : Blk w g0 67 cs0) (h2 : Blk w g2 29 cs2) (hb : Below B W w) (n0 : g0 ≠ g) (n2 : g2 ≠ g) (hB : B ≤ g) (v : Val)
    (h : ∀ w6, Blk w6 g 67 (arrI ((p.1.1, (c, v)), p.2)) → Blk w6 g0 67 cs0 → Blk w6 g2 29 cs2 → Below B W w6 → wpList Tryz.prog ops Q rest (a.put o.dst undef) w6) : wpList Tryz.prog ops Q (o :: rest) a w :=
  wpList_store_mid hgd 29 x y ho g 5 c.arr hx hy (iv_there h1 (by simp)) (by kernel_rfl) (by simp [Value.oneCell']) (h _ (putHi h1 c v) (blk_far9 h0 n0 _ _) (blk_far9 h2 n2 _ _) (bel_cells9 hb hB _ _))
theorem wpl_putLo {ops : Array Oper} {rest : List Oper} {o : Oper} {a : Act} {w W : World} {Q : Exit → Act → World → Prop} {B g g0 g2 : Nat} {p : PI} {c : VC} {cs0 cs2 : Array Value} (hgd : o.guard = none) (x y : Operand) (ho : o.op = .store 29 x y)
    (hx : a.eval x = .pointer (some ⟨g, 0, none⟩)) (hy : a.eval y = .agg c.arr) (h1 : Blk w g 67 (arrI p)) (h0 : Blk w g0 67 cs0) (h2 : Blk w g2 29 cs2) (hb : Below B W w) (n0 : g0 ≠ g) (n2 : g2 ≠ g) (hB : B ≤ g) (v : Val)
    (h : ∀ w6, Blk w6 g 67 (arrI (((c, v), p.1.2), p.2)) → Blk w6 g0 67 cs0 → Blk w6 g2 29 cs2 → Below B W w6 → wpList Tryz.prog ops Q rest (a.put o.dst undef) w6) : wpList Tryz.prog ops Q (o :: rest) a w :=
  wpList_store_mid hgd 29 x y ho g 0 c.arr hx hy (iv_there h1 (by simp)) (by kernel_rfl) (by simp [Value.oneCell']) (h _ (putLo h1 c v) (blk_far9 h0 n0 _ _) (blk_far9 h2 n2 _ _) (bel_cells9 hb hB _ _))
theorem wp_name {P : Program} {C : Code} {Q : Exit → Act → World → Prop} {a : Act} {w : World} (h : ∀ w', w' = w → Code.wp P C Q a w') : Code.wp P C Q a w := h w rfl
theorem blk_row {w : World} {g : Nat} {t : TypeId} {old : Array Value} (h : Blk w g t old) (cs : Array Value) : Blk (w.setRow g cs) g t cs := setRow_heap w g old cs t (0, 0) h
theorem bel_row {B : Nat} {a w : World} (h : Below B a w) {g : Nat} (hg : B ≤ g) (cs : Array Value) : Below B a (w.setRow g cs) :=
  ⟨h.os, h.tape, h.output, by rw [setRow_size]; exact h.size, fun k hk => (setRow_other w g k cs (by omega)).trans (h.block k hk)⟩
theorem load_iv {w : World} {g : Nat} {cs : Array Value} (h : Blk w g 67 cs) (hz : cs.size = 12) : (loadVar 67 ⟨g, 0, none⟩).run Tryz.prog w = .ok (.agg cs) w :=
  run_loadVar_row w g _ _ cs _ _ h Tryz.underlying67 rfl (by rw [hz]; kernel_rfl)
theorem results_ivb {fn : Func} {p u : Tmp} (h : fn.results = #[.cell p 67, .tmp u]) (tmps : Array Value) (g : Nat) (h1 : tmps.getD p undef = .pointer (some ⟨g, 0, none⟩)) (e : Value) (h2 : tmps.getD u undef = e)
    (W : World) (R : Array Value) (hz : R.size = 12) (q : Blk W g 67 R) : (results fn tmps).run Tryz.prog W = .ok (.tuple #[.agg R, e]) W := by
  rw [results_cell_tmp h, h1, h2]
  simp [asAddr, load_iv q hz]
/-- the range of a kind as cells -/
def rngP (k : Int) : PI :=
  if k = 3 then (((cLf 3 (-9223372036854775808) ByteArray.empty, .mk 3 (-9223372036854775808) ByteArray.empty [] []), (cLf 3 9223372036854775807 ByteArray.empty, .mk 3 9223372036854775807 ByteArray.empty [] [])), (true, true))
  else if k = 4 then (((cLf 4 0 ByteArray.empty, vKd 4), (cLf 5 0 ByteArray.empty, vKd 5)), (true, false))
  else if k = 5 then (((cLf 5 0 ByteArray.empty, vKd 5), (cLf 6 0 ByteArray.empty, vKd 6)), (true, false))
  else if k = 7 then (((cLf 7 0 ByteArray.empty, vKd 7), (cLf 8 0 zero12, .mk 8 0 zero12 [] [])), (true, false))
  else if k = 8 then (((cLf 8 0 zero12, .mk 8 0 zero12 [] []), (cLf 9 0 ByteArray.empty, vKd 9)), (true, false))
  else if k = 9 then (((cLf 9 0 ByteArray.empty, vKd 9), (cLf 9 1 ByteArray.empty, .mk 9 1 ByteArray.empty [] [])), (true, true))
  else if k = 10 then (((cLf 10 0 ByteArray.empty, vKd 10), (cLf 10 9223372036854775807 ByteArray.empty, .mk 10 9223372036854775807 ByteArray.empty [] [])), (true, true))
  else (((cLf k 0 ByteArray.empty, vKd k), (cLf k 0 ByteArray.empty, vKd k)), (true, true))
theorem rngP_ok (k : Int) (w : World) : okI w (rngP k) := by
  have e0 : (ByteArray.empty).size ≤ reach := by decide
  have e1 : zero12.size ≤ reach := by decide
  unfold rngP
  repeat' split
  all_goals exact ⟨rw_leaf _ _ _ (by assumption), rw_leaf _ _ _ (by assumption)⟩
theorem rngP_iv {k : Int} (h : 1 ≤ k ∧ k ≤ 11) (h6 : k ≠ 6) : ivP (rngP k) = rangeI k := by
  have : k = 1 ∨ k = 2 ∨ k = 3 ∨ k = 4 ∨ k = 5 ∨ k = 7 ∨ k = 8 ∨ k = 9 ∨ k = 10 ∨ k = 11 := by omega
  rcases this with rfl | rfl | rfl | rfl | rfl | rfl | rfl | rfl | rfl | rfl <;> rfl
abbrev zI : PI := (((VC.zero, Val.zero), (VC.zero, Val.zero)), (false, false))
/-- what kindRange hands back -/
def KindOk (k : Int) (w : World) (e : Ending) (w' : World) : Prop := e = .returned (.tuple #[aggI (rngP k), .bool true]) ∧ Below w.heap.size w w'
theorem info_b12 : (Tryz.prog.info? 5).map (fun i => (i.zero, i.size, i.bytes)) = some (some (.int .u8 0), 1, 1) := by kernel_rfl
abbrev twelve0 : Array Value := #[.int .u8 0, .int .u8 0, .int .u8 0, .int .u8 0, .int .u8 0, .int .u8 0, .int .u8 0, .int .u8 0, .int .u8 0, .int .u8 0, .int .u8 0, .int .u8 0]
theorem make12 (w : World) : (Instr.makeSlice 108 (.int .i64 12) (.int .i64 12)).run Tryz.prog w = .ok (.slice (some ⟨w.heap.size, 0, none⟩) 12 12) (w.alloc (.cells twelve0 5)) := by
  obtain ⟨j0, hj0, hz0, hz1, hz2⟩ := info_parts info_b12
  have := run_make_rowN (P := Tryz.prog) 108 5 j0 (.int .u8 0) Tryz.underlying108 hj0 hz0 12 (by rw [hz2]; omega) (by omega) w
  rw [hz1, show ((12 : Nat) : Int) = 12 from rfl, show madeCells (Value.int .u8 0).cells (12 * 1) = twelve0 from by kernel_rfl] at this
  exact this
theorem zero12_str : strOfNums [0, 0, 0, 0, 0, 0, 0, 0, 0, 0, 0, 0] = zero12 := by
  apply ByteArray.ext
  apply Array.toList_inj.1
  rw [strOfNums_data]
  rfl
theorem conv12 (w : World) : (convert 108 9 (.slice (some ⟨w.heap.size, 0, none⟩) 12 12)).run Tryz.prog (w.alloc (.cells twelve0 5)) = .ok (.string zero12) (w.alloc (.cells twelve0 5)) := by
  have hb : Blk (w.alloc (.cells twelve0 5)) w.heap.size 5 twelve0 := Blk.new_at rfl
  rw [run_convert_bytes_arg (P := Tryz.prog) _ 108 5 Tryz.underlying108 Tryz.underlying5 w.heap.size 0 12 12 [0, 0, 0, 0, 0, 0, 0, 0, 0, 0, 0, 0] rfl (fun i hi => ?_) 9 Tryz.underlying9, zero12_str]
  rw [Nat.zero_add, hb.cell]
  have : i = 0 ∨ i = 1 ∨ i = 2 ∨ i = 3 ∨ i = 4 ∨ i = 5 ∨ i = 6 ∨ i = 7 ∨ i = 8 ∨ i = 9 ∨ i = 10 ∨ i = 11 := by omega
  rcases this with rfl | rfl | rfl | rfl | rfl | rfl | rfl | rfl | rfl | rfl | rfl | rfl <;> rfl
set_option maxRecDepth 100000 in
set_option maxHeartbeats 8000000 in
theorem kindRange_any (k : Int) (w : World) (h : 1 ≤ k ∧ k ≤ 11) (h6 : k ≠ 6) : Calls Tryz.prog 60 #[.int .i64 k] w (KindOk k w) := by
  have hk : k = 1 ∨ k = 2 ∨ k = 3 ∨ k = 4 ∨ k = 5 ∨ k = 7 ∨ k = 8 ∨ k = 9 ∨ k = 10 ∨ k = 11 := by omega
  clear h h6
  have HK := Lib.hid hk
  clear hk
  go_enter Tryz.func60, Tryz.ntmps60
  obtain ⟨z0, hz0⟩ : ∃ z : PI, z = (((cLf k 0 ByteArray.empty, vKd k), (cLf k 0 ByteArray.empty, vKd k)), (true, true)) := ⟨_, rfl⟩
  have B0 : Hid (Blk ((w.alloc (Obj.cells (arrI zI) 67)).alloc (Obj.cells (arrI (((cLf k 0 ByteArray.empty, vKd k), (cLf k 0 ByteArray.empty, vKd k)), (true, true))) 67)) w.heap.size 67 (arrI zI)) := (Blk.new_at rfl).alloc _
  have B1 : Hid (Blk ((w.alloc (Obj.cells (arrI zI) 67)).alloc (Obj.cells (arrI (((cLf k 0 ByteArray.empty, vKd k), (cLf k 0 ByteArray.empty, vKd k)), (true, true))) 67)) (w.heap.size + 1) 67 (arrI (((cLf k 0 ByteArray.empty, vKd k), (cLf k 0 ByteArray.empty, vKd k)), (true, true)))) := Blk.new_at (by simp)
  have BE : Hid (Below w.heap.size w ((w.alloc (Obj.cells (arrI zI) 67)).alloc (Obj.cells (arrI (((cLf k 0 ByteArray.empty, vKd k), (cLf k 0 ByteArray.empty, vKd k)), (true, true))) 67))) := ((Below.refl _ _).alloc (Nat.le_refl _) _).alloc (by simp) _
  go_upto_region 2 with fail
  change Code.wp _ _ _ _ ((w.alloc (Obj.cells (arrI zI) 67)).alloc (Obj.cells (arrI (((cLf k 0 ByteArray.empty, vKd k), (cLf k 0 ByteArray.empty, vKd k)), (true, true))) 67))
  have hsz : ((w.alloc (Obj.cells (arrI zI) 67)).alloc (Obj.cells (arrI (((cLf k 0 ByteArray.empty, vKd k), (cLf k 0 ByteArray.empty, vKd k)), (true, true))) 67)).heap.size = w.heap.size + 2 := by simp
  generalize ((w.alloc (Obj.cells (arrI zI) 67)).alloc (Obj.cells (arrI (((cLf k 0 ByteArray.empty, vKd k), (cLf k 0 ByteArray.empty, vKd k)), (true, true))) 67)) = wa at *
  have HSZ := Lib.hid hsz
  clear hsz
  have hmk := make12 wa
  have hcv := conv12 wa
  go_upto_region 3 with fail
  change Code.wp _ _ _ _ ((wa.alloc (.cells twelve0 5)).alloc (Obj.cells (cLf 8 0 zero12).arr 29))
  have B2 : Hid (Blk ((wa.alloc (.cells twelve0 5)).alloc (Obj.cells (cLf 8 0 zero12).arr 29)) (wa.heap.size + 1) 29 (cLf 8 0 zero12).arr) := Blk.new_at (by simp)
  replace B0 := Lib.hid ((B0.out.alloc (.cells twelve0 5)).alloc (Obj.cells (cLf 8 0 zero12).arr 29))
  replace B1 := Lib.hid ((B1.out.alloc (.cells twelve0 5)).alloc (Obj.cells (cLf 8 0 zero12).arr 29))
  replace BE := Lib.hid ((BE.out.alloc BE.out.size (.cells twelve0 5)).alloc (by have := BE.out.size; simp; omega) (Obj.cells (cLf 8 0 zero12).arr 29))
  have HNE : Hid (wa.heap.size + 1 ≠ w.heap.size + 1) := by rw [Hid, HSZ.out]; omega
  clear hmk hcv
  generalize ((wa.alloc (.cells twelve0 5)).alloc (Obj.cells (cLf 8 0 zero12).arr 29)) = wb at *
  clear hz0 z0
  obtain ⟨R, hR⟩ : ∃ R : Array Value, R = arrI (rngP k) := ⟨_, rfl⟩
  have HR : Hid (aggI (rngP k) = .agg R) := by rw [hR]; exact Lib.hid rfl
  have hRK : R.size = 12 := by rw [hR]; rfl
  have HRK := Lib.hid hRK
  have HALL : Hid (R.all (·.oneCell') = true) := by rw [Hid, hR]; simp [Value.oneCell']
  have HR2 := Lib.hid hR
  have z1 := B1.out.frozen
  clear hR hRK
  have hk := HK.out
  clear HK
  rcases hk with rfl | rfl | rfl | rfl | rfl | rfl | rfl | rfl | rfl | rfl
  · obtain ⟨e0, e1, e2, e3, e4⟩ := VAt.of_blk B2.out
    simp only [Nat.zero_add] at e0 e1 e2 e3 e4
    obtain ⟨⟨a0, a1, a2, a3, a4⟩, ⟨b0, b1, b2, b3, b4⟩, b5, b6⟩ := IAt.of_blk B1.out
    simp only [Nat.zero_add] at a0 a1 a2 a3 a4 b0 b1 b2 b3 b4 b5 b6
    go_wp2_with (first
      | ((with_reducible show wpList _ _ _ (⟨_, .load 67 _, _, _, _, _⟩ :: _) _ _); refine wpl_name ?_; intro w5 hw5; have C1 : Hid (Blk w5 (w.heap.size + 1) 67 R) := (by rw [Hid, hw5]; refine Blk.cast9 (cs := R) ?_; first | exact ⟨_, B1.out, by rw [HR2.out]; rfl⟩ | exact ⟨_, (Blk.set_ B1.out _ _), by rw [HR2.out]; rfl⟩ | exact ⟨_, (Blk.set_ (Blk.set_ B1.out _ _) _ _), by rw [HR2.out]; rfl⟩); have C0 : Hid (Blk w5 w.heap.size 67 (arrI zI)) := (by rw [Hid, hw5]; (repeat' refine Blk.far ?_ (by show w.heap.size ≠ w.heap.size + 1; omega) _); exact B0.out); have CE : Hid (Below w.heap.size w w5) := (by rw [Hid, hw5]; (repeat' refine Below.setCell ?_ (by show w.heap.size ≤ w.heap.size + 1; omega) _); exact BE.out); have RG : Hid (w5.rangeAt (w.heap.size + 1) 0 R.toList) := range_blk C1.out _ _ fun j v hj => (by rw [Nat.zero_add, ← hj, Array.getElem?_toList]); clear hw5 e0 e1 e2 e3 e4 a0 a1 a2 a3 a4 b0 b1 b2 b3 b4 b5 b6 B0 B1 B2 BE z1; refine wpList_mid_w rfl 67 _ rfl (w.heap.size + 1) 0 rfl _ _ RG.out Tryz.underlying67 rfl (by rw [Array.length_toList, HRK.out]; kernel_rfl) ?_)
      | ((with_reducible show wpList _ _ _ (⟨_, .store 67 _ _, _, _, _, _⟩ :: _) _ _); refine wpList_store_row rfl 67 _ _ rfl w.heap.size R rfl rfl 67 _ C0.out (by rw [HRK.out]; kernel_rfl) (by rw [HRK.out]; rfl) HALL.out ?_))
    exact bodyPost_ret (results_ivb rfl _ _ rfl _ rfl _ R HRK.out (blk_row C0.out R)) rfl ⟨by rw [HR.out]; rfl, bel_row CE.out (Nat.le_refl _) _⟩
  · obtain ⟨e0, e1, e2, e3, e4⟩ := VAt.of_blk B2.out
    simp only [Nat.zero_add] at e0 e1 e2 e3 e4
    obtain ⟨⟨a0, a1, a2, a3, a4⟩, ⟨b0, b1, b2, b3, b4⟩, b5, b6⟩ := IAt.of_blk B1.out
    simp only [Nat.zero_add] at a0 a1 a2 a3 a4 b0 b1 b2 b3 b4 b5 b6
    go_wp2_with (first
      | ((with_reducible show wpList _ _ _ (⟨_, .load 67 _, _, _, _, _⟩ :: _) _ _); refine wpl_name ?_; intro w5 hw5; have C1 : Hid (Blk w5 (w.heap.size + 1) 67 R) := (by rw [Hid, hw5]; refine Blk.cast9 (cs := R) ?_; first | exact ⟨_, B1.out, by rw [HR2.out]; rfl⟩ | exact ⟨_, (Blk.set_ B1.out _ _), by rw [HR2.out]; rfl⟩ | exact ⟨_, (Blk.set_ (Blk.set_ B1.out _ _) _ _), by rw [HR2.out]; rfl⟩); have C0 : Hid (Blk w5 w.heap.size 67 (arrI zI)) := (by rw [Hid, hw5]; (repeat' refine Blk.far ?_ (by show w.heap.size ≠ w.heap.size + 1; omega) _); exact B0.out); have CE : Hid (Below w.heap.size w w5) := (by rw [Hid, hw5]; (repeat' refine Below.setCell ?_ (by show w.heap.size ≤ w.heap.size + 1; omega) _); exact BE.out); have RG : Hid (w5.rangeAt (w.heap.size + 1) 0 R.toList) := range_blk C1.out _ _ fun j v hj => (by rw [Nat.zero_add, ← hj, Array.getElem?_toList]); clear hw5 e0 e1 e2 e3 e4 a0 a1 a2 a3 a4 b0 b1 b2 b3 b4 b5 b6 B0 B1 B2 BE z1; refine wpList_mid_w rfl 67 _ rfl (w.heap.size + 1) 0 rfl _ _ RG.out Tryz.underlying67 rfl (by rw [Array.length_toList, HRK.out]; kernel_rfl) ?_)
      | ((with_reducible show wpList _ _ _ (⟨_, .store 67 _ _, _, _, _, _⟩ :: _) _ _); refine wpList_store_row rfl 67 _ _ rfl w.heap.size R rfl rfl 67 _ C0.out (by rw [HRK.out]; kernel_rfl) (by rw [HRK.out]; rfl) HALL.out ?_))
    exact bodyPost_ret (results_ivb rfl _ _ rfl _ rfl _ R HRK.out (blk_row C0.out R)) rfl ⟨by rw [HR.out]; rfl, bel_row CE.out (Nat.le_refl _) _⟩
  · obtain ⟨e0, e1, e2, e3, e4⟩ := VAt.of_blk B2.out
    simp only [Nat.zero_add] at e0 e1 e2 e3 e4
    obtain ⟨⟨a0, a1, a2, a3, a4⟩, ⟨b0, b1, b2, b3, b4⟩, b5, b6⟩ := IAt.of_blk B1.out
    simp only [Nat.zero_add] at a0 a1 a2 a3 a4 b0 b1 b2 b3 b4 b5 b6
    go_wp2_with (first
      | ((with_reducible show wpList _ _ _ (⟨_, .load 67 _, _, _, _, _⟩ :: _) _ _); refine wpl_name ?_; intro w5 hw5; have C1 : Hid (Blk w5 (w.heap.size + 1) 67 R) := (by rw [Hid, hw5]; refine Blk.cast9 (cs := R) ?_; first | exact ⟨_, B1.out, by rw [HR2.out]; rfl⟩ | exact ⟨_, (Blk.set_ B1.out _ _), by rw [HR2.out]; rfl⟩ | exact ⟨_, (Blk.set_ (Blk.set_ B1.out _ _) _ _), by rw [HR2.out]; rfl⟩); have C0 : Hid (Blk w5 w.heap.size 67 (arrI zI)) := (by rw [Hid, hw5]; (repeat' refine Blk.far ?_ (by show w.heap.size ≠ w.heap.size + 1; omega) _); exact B0.out); have CE : Hid (Below w.heap.size w w5) := (by rw [Hid, hw5]; (repeat' refine Below.setCell ?_ (by show w.heap.size ≤ w.heap.size + 1; omega) _); exact BE.out); have RG : Hid (w5.rangeAt (w.heap.size + 1) 0 R.toList) := range_blk C1.out _ _ fun j v hj => (by rw [Nat.zero_add, ← hj, Array.getElem?_toList]); clear hw5 e0 e1 e2 e3 e4 a0 a1 a2 a3 a4 b0 b1 b2 b3 b4 b5 b6 B0 B1 B2 BE z1; refine wpList_mid_w rfl 67 _ rfl (w.heap.size + 1) 0 rfl _ _ RG.out Tryz.underlying67 rfl (by rw [Array.length_toList, HRK.out]; kernel_rfl) ?_)
      | ((with_reducible show wpList _ _ _ (⟨_, .store 67 _ _, _, _, _, _⟩ :: _) _ _); refine wpList_store_row rfl 67 _ _ rfl w.heap.size R rfl rfl 67 _ C0.out (by rw [HRK.out]; kernel_rfl) (by rw [HRK.out]; rfl) HALL.out ?_))
    exact bodyPost_ret (results_ivb rfl _ _ rfl _ rfl _ R HRK.out (blk_row C0.out R)) rfl ⟨by rw [HR.out]; rfl, bel_row CE.out (Nat.le_refl _) _⟩
  · obtain ⟨e0, e1, e2, e3, e4⟩ := VAt.of_blk B2.out
    simp only [Nat.zero_add] at e0 e1 e2 e3 e4
    obtain ⟨⟨a0, a1, a2, a3, a4⟩, ⟨b0, b1, b2, b3, b4⟩, b5, b6⟩ := IAt.of_blk B1.out
    simp only [Nat.zero_add] at a0 a1 a2 a3 a4 b0 b1 b2 b3 b4 b5 b6
    go_wp2_with (first
      | ((with_reducible show wpList _ _ _ (⟨_, .store 29 _ _, _, _, _, _⟩ :: _) _ _); refine wpl_putHi (c := (cLf 5 0 ByteArray.empty)) rfl _ _ rfl rfl rfl B1.out B0.out B2.out BE.out (by omega) HNE.out (by omega) (vKd 5) ?_; intro w6 hB1 hB0 hB2 hBE; clear B0 B1 B2 BE e0 e1 e2 e3 e4 a0 a1 a2 a3 a4 b0 b1 b2 b3 b4 b5 b6 z1; have B0 := Lib.hid hB0; have B1 := Lib.hid hB1; have B2 := Lib.hid hB2; have BE := Lib.hid hBE; clear hB0 hB1 hB2 hBE; have z1 := B1.out.frozen; obtain ⟨e0, e1, e2, e3, e4⟩ := VAt.of_blk B2.out; simp only [Nat.zero_add] at e0 e1 e2 e3 e4; obtain ⟨⟨a0, a1, a2, a3, a4⟩, ⟨b0, b1, b2, b3, b4⟩, b5, b6⟩ := IAt.of_blk B1.out; simp only [Nat.zero_add] at a0 a1 a2 a3 a4 b0 b1 b2 b3 b4 b5 b6)
      | ((with_reducible show wpList _ _ _ (⟨_, .load 67 _, _, _, _, _⟩ :: _) _ _); refine wpl_name ?_; intro w5 hw5; have C1 : Hid (Blk w5 (w.heap.size + 1) 67 R) := (by rw [Hid, hw5]; refine Blk.cast9 (cs := R) ?_; first | exact ⟨_, B1.out, by rw [HR2.out]; rfl⟩ | exact ⟨_, (Blk.set_ B1.out _ _), by rw [HR2.out]; rfl⟩ | exact ⟨_, (Blk.set_ (Blk.set_ B1.out _ _) _ _), by rw [HR2.out]; rfl⟩); have C0 : Hid (Blk w5 w.heap.size 67 (arrI zI)) := (by rw [Hid, hw5]; (repeat' refine Blk.far ?_ (by show w.heap.size ≠ w.heap.size + 1; omega) _); exact B0.out); have CE : Hid (Below w.heap.size w w5) := (by rw [Hid, hw5]; (repeat' refine Below.setCell ?_ (by show w.heap.size ≤ w.heap.size + 1; omega) _); exact BE.out); have RG : Hid (w5.rangeAt (w.heap.size + 1) 0 R.toList) := range_blk C1.out _ _ fun j v hj => (by rw [Nat.zero_add, ← hj, Array.getElem?_toList]); clear hw5 e0 e1 e2 e3 e4 a0 a1 a2 a3 a4 b0 b1 b2 b3 b4 b5 b6 B0 B1 B2 BE z1; refine wpList_mid_w rfl 67 _ rfl (w.heap.size + 1) 0 rfl _ _ RG.out Tryz.underlying67 rfl (by rw [Array.length_toList, HRK.out]; kernel_rfl) ?_)
      | ((with_reducible show wpList _ _ _ (⟨_, .store 67 _ _, _, _, _, _⟩ :: _) _ _); refine wpList_store_row rfl 67 _ _ rfl w.heap.size R rfl rfl 67 _ C0.out (by rw [HRK.out]; kernel_rfl) (by rw [HRK.out]; rfl) HALL.out ?_))
    exact bodyPost_ret (results_ivb rfl _ _ rfl _ rfl _ R HRK.out (blk_row C0.out R)) rfl ⟨by rw [HR.out]; rfl, bel_row CE.out (Nat.le_refl _) _⟩
  · obtain ⟨e0, e1, e2, e3, e4⟩ := VAt.of_blk B2.out
    simp only [Nat.zero_add] at e0 e1 e2 e3 e4
    obtain ⟨⟨a0, a1, a2, a3, a4⟩, ⟨b0, b1, b2, b3, b4⟩, b5, b6⟩ := IAt.of_blk B1.out
    simp only [Nat.zero_add] at a0 a1 a2 a3 a4 b0 b1 b2 b3 b4 b5 b6
    go_wp2_with (first
      | ((with_reducible show wpList _ _ _ (⟨_, .store 29 _ _, _, _, _, _⟩ :: _) _ _); refine wpl_putHi (c := (cLf 6 0 ByteArray.empty)) rfl _ _ rfl rfl rfl B1.out B0.out B2.out BE.out (by omega) HNE.out (by omega) (vKd 6) ?_; intro w6 hB1 hB0 hB2 hBE; clear B0 B1 B2 BE e0 e1 e2 e3 e4 a0 a1 a2 a3 a4 b0 b1 b2 b3 b4 b5 b6 z1; have B0 := Lib.hid hB0; have B1 := Lib.hid hB1; have B2 := Lib.hid hB2; have BE := Lib.hid hBE; clear hB0 hB1 hB2 hBE; have z1 := B1.out.frozen; obtain ⟨e0, e1, e2, e3, e4⟩ := VAt.of_blk B2.out; simp only [Nat.zero_add] at e0 e1 e2 e3 e4; obtain ⟨⟨a0, a1, a2, a3, a4⟩, ⟨b0, b1, b2, b3, b4⟩, b5, b6⟩ := IAt.of_blk B1.out; simp only [Nat.zero_add] at a0 a1 a2 a3 a4 b0 b1 b2 b3 b4 b5 b6)
      | ((with_reducible show wpList _ _ _ (⟨_, .load 67 _, _, _, _, _⟩ :: _) _ _); refine wpl_name ?_; intro w5 hw5; have C1 : Hid (Blk w5 (w.heap.size + 1) 67 R) := (by rw [Hid, hw5]; refine Blk.cast9 (cs := R) ?_; first | exact ⟨_, B1.out, by rw [HR2.out]; rfl⟩ | exact ⟨_, (Blk.set_ B1.out _ _), by rw [HR2.out]; rfl⟩ | exact ⟨_, (Blk.set_ (Blk.set_ B1.out _ _) _ _), by rw [HR2.out]; rfl⟩); have C0 : Hid (Blk w5 w.heap.size 67 (arrI zI)) := (by rw [Hid, hw5]; (repeat' refine Blk.far ?_ (by show w.heap.size ≠ w.heap.size + 1; omega) _); exact B0.out); have CE : Hid (Below w.heap.size w w5) := (by rw [Hid, hw5]; (repeat' refine Below.setCell ?_ (by show w.heap.size ≤ w.heap.size + 1; omega) _); exact BE.out); have RG : Hid (w5.rangeAt (w.heap.size + 1) 0 R.toList) := range_blk C1.out _ _ fun j v hj => (by rw [Nat.zero_add, ← hj, Array.getElem?_toList]); clear hw5 e0 e1 e2 e3 e4 a0 a1 a2 a3 a4 b0 b1 b2 b3 b4 b5 b6 B0 B1 B2 BE z1; refine wpList_mid_w rfl 67 _ rfl (w.heap.size + 1) 0 rfl _ _ RG.out Tryz.underlying67 rfl (by rw [Array.length_toList, HRK.out]; kernel_rfl) ?_)
      | ((with_reducible show wpList _ _ _ (⟨_, .store 67 _ _, _, _, _, _⟩ :: _) _ _); refine wpList_store_row rfl 67 _ _ rfl w.heap.size R rfl rfl 67 _ C0.out (by rw [HRK.out]; kernel_rfl) (by rw [HRK.out]; rfl) HALL.out ?_))
    exact bodyPost_ret (results_ivb rfl _ _ rfl _ rfl _ R HRK.out (blk_row C0.out R)) rfl ⟨by rw [HR.out]; rfl, bel_row CE.out (Nat.le_refl _) _⟩
  · obtain ⟨e0, e1, e2, e3, e4⟩ := VAt.of_blk B2.out
    simp only [Nat.zero_add] at e0 e1 e2 e3 e4
    obtain ⟨⟨a0, a1, a2, a3, a4⟩, ⟨b0, b1, b2, b3, b4⟩, b5, b6⟩ := IAt.of_blk B1.out
    simp only [Nat.zero_add] at a0 a1 a2 a3 a4 b0 b1 b2 b3 b4 b5 b6
    go_wp2_with (first
      | ((with_reducible show wpList _ _ _ (⟨_, .store 29 _ _, _, _, _, _⟩ :: _) _ _); refine wpl_putHi (c := (cLf 8 0 zero12)) rfl _ _ rfl rfl rfl B1.out B0.out B2.out BE.out (by omega) HNE.out (by omega) (.mk 8 0 zero12 [] []) ?_; intro w6 hB1 hB0 hB2 hBE; clear B0 B1 B2 BE e0 e1 e2 e3 e4 a0 a1 a2 a3 a4 b0 b1 b2 b3 b4 b5 b6 z1; have B0 := Lib.hid hB0; have B1 := Lib.hid hB1; have B2 := Lib.hid hB2; have BE := Lib.hid hBE; clear hB0 hB1 hB2 hBE; have z1 := B1.out.frozen; obtain ⟨e0, e1, e2, e3, e4⟩ := VAt.of_blk B2.out; simp only [Nat.zero_add] at e0 e1 e2 e3 e4; obtain ⟨⟨a0, a1, a2, a3, a4⟩, ⟨b0, b1, b2, b3, b4⟩, b5, b6⟩ := IAt.of_blk B1.out; simp only [Nat.zero_add] at a0 a1 a2 a3 a4 b0 b1 b2 b3 b4 b5 b6)
      | ((with_reducible show wpList _ _ _ (⟨_, .load 67 _, _, _, _, _⟩ :: _) _ _); refine wpl_name ?_; intro w5 hw5; have C1 : Hid (Blk w5 (w.heap.size + 1) 67 R) := (by rw [Hid, hw5]; refine Blk.cast9 (cs := R) ?_; first | exact ⟨_, B1.out, by rw [HR2.out]; rfl⟩ | exact ⟨_, (Blk.set_ B1.out _ _), by rw [HR2.out]; rfl⟩ | exact ⟨_, (Blk.set_ (Blk.set_ B1.out _ _) _ _), by rw [HR2.out]; rfl⟩); have C0 : Hid (Blk w5 w.heap.size 67 (arrI zI)) := (by rw [Hid, hw5]; (repeat' refine Blk.far ?_ (by show w.heap.size ≠ w.heap.size + 1; omega) _); exact B0.out); have CE : Hid (Below w.heap.size w w5) := (by rw [Hid, hw5]; (repeat' refine Below.setCell ?_ (by show w.heap.size ≤ w.heap.size + 1; omega) _); exact BE.out); have RG : Hid (w5.rangeAt (w.heap.size + 1) 0 R.toList) := range_blk C1.out _ _ fun j v hj => (by rw [Nat.zero_add, ← hj, Array.getElem?_toList]); clear hw5 e0 e1 e2 e3 e4 a0 a1 a2 a3 a4 b0 b1 b2 b3 b4 b5 b6 B0 B1 B2 BE z1; refine wpList_mid_w rfl 67 _ rfl (w.heap.size + 1) 0 rfl _ _ RG.out Tryz.underlying67 rfl (by rw [Array.length_toList, HRK.out]; kernel_rfl) ?_)
      | ((with_reducible show wpList _ _ _ (⟨_, .store 67 _ _, _, _, _, _⟩ :: _) _ _); refine wpList_store_row rfl 67 _ _ rfl w.heap.size R rfl rfl 67 _ C0.out (by rw [HRK.out]; kernel_rfl) (by rw [HRK.out]; rfl) HALL.out ?_))
    exact bodyPost_ret (results_ivb rfl _ _ rfl _ rfl _ R HRK.out (blk_row C0.out R)) rfl ⟨by rw [HR.out]; rfl, bel_row CE.out (Nat.le_refl _) _⟩
  · obtain ⟨e0, e1, e2, e3, e4⟩ := VAt.of_blk B2.out
    simp only [Nat.zero_add] at e0 e1 e2 e3 e4
    obtain ⟨⟨a0, a1, a2, a3, a4⟩, ⟨b0, b1, b2, b3, b4⟩, b5, b6⟩ := IAt.of_blk B1.out
    simp only [Nat.zero_add] at a0 a1 a2 a3 a4 b0 b1 b2 b3 b4 b5 b6
    go_wp2_with (first
      | ((with_reducible show wpList _ _ _ (⟨_, .store 29 _ _, _, _, _, _⟩ :: _) _ _); refine wpl_putLo (c := (cLf 8 0 zero12)) rfl _ _ rfl rfl rfl B1.out B0.out B2.out BE.out (by omega) HNE.out (by omega) (.mk 8 0 zero12 [] []) ?_; intro w6 hB1 hB0 hB2 hBE; clear B0 B1 B2 BE e0 e1 e2 e3 e4 a0 a1 a2 a3 a4 b0 b1 b2 b3 b4 b5 b6 z1; have B0 := Lib.hid hB0; have B1 := Lib.hid hB1; have B2 := Lib.hid hB2; have BE := Lib.hid hBE; clear hB0 hB1 hB2 hBE; have z1 := B1.out.frozen; obtain ⟨e0, e1, e2, e3, e4⟩ := VAt.of_blk B2.out; simp only [Nat.zero_add] at e0 e1 e2 e3 e4; obtain ⟨⟨a0, a1, a2, a3, a4⟩, ⟨b0, b1, b2, b3, b4⟩, b5, b6⟩ := IAt.of_blk B1.out; simp only [Nat.zero_add] at a0 a1 a2 a3 a4 b0 b1 b2 b3 b4 b5 b6)
      | ((with_reducible show wpList _ _ _ (⟨_, .store 29 _ _, _, _, _, _⟩ :: _) _ _); refine wpl_putHi (c := (cLf 9 0 ByteArray.empty)) rfl _ _ rfl rfl rfl B1.out B0.out B2.out BE.out (by omega) HNE.out (by omega) (vKd 9) ?_; intro w6 hB1 hB0 hB2 hBE; clear B0 B1 B2 BE e0 e1 e2 e3 e4 a0 a1 a2 a3 a4 b0 b1 b2 b3 b4 b5 b6 z1; have B0 := Lib.hid hB0; have B1 := Lib.hid hB1; have B2 := Lib.hid hB2; have BE := Lib.hid hBE; clear hB0 hB1 hB2 hBE; have z1 := B1.out.frozen; obtain ⟨e0, e1, e2, e3, e4⟩ := VAt.of_blk B2.out; simp only [Nat.zero_add] at e0 e1 e2 e3 e4; obtain ⟨⟨a0, a1, a2, a3, a4⟩, ⟨b0, b1, b2, b3, b4⟩, b5, b6⟩ := IAt.of_blk B1.out; simp only [Nat.zero_add] at a0 a1 a2 a3 a4 b0 b1 b2 b3 b4 b5 b6)
      | ((with_reducible show wpList _ _ _ (⟨_, .load 67 _, _, _, _, _⟩ :: _) _ _); refine wpl_name ?_; intro w5 hw5; have C1 : Hid (Blk w5 (w.heap.size + 1) 67 R) := (by rw [Hid, hw5]; refine Blk.cast9 (cs := R) ?_; first | exact ⟨_, B1.out, by rw [HR2.out]; rfl⟩ | exact ⟨_, (Blk.set_ B1.out _ _), by rw [HR2.out]; rfl⟩ | exact ⟨_, (Blk.set_ (Blk.set_ B1.out _ _) _ _), by rw [HR2.out]; rfl⟩); have C0 : Hid (Blk w5 w.heap.size 67 (arrI zI)) := (by rw [Hid, hw5]; (repeat' refine Blk.far ?_ (by show w.heap.size ≠ w.heap.size + 1; omega) _); exact B0.out); have CE : Hid (Below w.heap.size w w5) := (by rw [Hid, hw5]; (repeat' refine Below.setCell ?_ (by show w.heap.size ≤ w.heap.size + 1; omega) _); exact BE.out); have RG : Hid (w5.rangeAt (w.heap.size + 1) 0 R.toList) := range_blk C1.out _ _ fun j v hj => (by rw [Nat.zero_add, ← hj, Array.getElem?_toList]); clear hw5 e0 e1 e2 e3 e4 a0 a1 a2 a3 a4 b0 b1 b2 b3 b4 b5 b6 B0 B1 B2 BE z1; refine wpList_mid_w rfl 67 _ rfl (w.heap.size + 1) 0 rfl _ _ RG.out Tryz.underlying67 rfl (by rw [Array.length_toList, HRK.out]; kernel_rfl) ?_)
      | ((with_reducible show wpList _ _ _ (⟨_, .store 67 _ _, _, _, _, _⟩ :: _) _ _); refine wpList_store_row rfl 67 _ _ rfl w.heap.size R rfl rfl 67 _ C0.out (by rw [HRK.out]; kernel_rfl) (by rw [HRK.out]; rfl) HALL.out ?_))
    exact bodyPost_ret (results_ivb rfl _ _ rfl _ rfl _ R HRK.out (blk_row C0.out R)) rfl ⟨by rw [HR.out]; rfl, bel_row CE.out (Nat.le_refl _) _⟩
  · obtain ⟨e0, e1, e2, e3, e4⟩ := VAt.of_blk B2.out
    simp only [Nat.zero_add] at e0 e1 e2 e3 e4
    obtain ⟨⟨a0, a1, a2, a3, a4⟩, ⟨b0, b1, b2, b3, b4⟩, b5, b6⟩ := IAt.of_blk B1.out
    simp only [Nat.zero_add] at a0 a1 a2 a3 a4 b0 b1 b2 b3 b4 b5 b6
    go_wp2_with (first
      | ((with_reducible show wpList _ _ _ (⟨_, .load 67 _, _, _, _, _⟩ :: _) _ _); refine wpl_name ?_; intro w5 hw5; have C1 : Hid (Blk w5 (w.heap.size + 1) 67 R) := (by rw [Hid, hw5]; refine Blk.cast9 (cs := R) ?_; first | exact ⟨_, B1.out, by rw [HR2.out]; rfl⟩ | exact ⟨_, (Blk.set_ B1.out _ _), by rw [HR2.out]; rfl⟩ | exact ⟨_, (Blk.set_ (Blk.set_ B1.out _ _) _ _), by rw [HR2.out]; rfl⟩); have C0 : Hid (Blk w5 w.heap.size 67 (arrI zI)) := (by rw [Hid, hw5]; (repeat' refine Blk.far ?_ (by show w.heap.size ≠ w.heap.size + 1; omega) _); exact B0.out); have CE : Hid (Below w.heap.size w w5) := (by rw [Hid, hw5]; (repeat' refine Below.setCell ?_ (by show w.heap.size ≤ w.heap.size + 1; omega) _); exact BE.out); have RG : Hid (w5.rangeAt (w.heap.size + 1) 0 R.toList) := range_blk C1.out _ _ fun j v hj => (by rw [Nat.zero_add, ← hj, Array.getElem?_toList]); clear hw5 e0 e1 e2 e3 e4 a0 a1 a2 a3 a4 b0 b1 b2 b3 b4 b5 b6 B0 B1 B2 BE z1; refine wpList_mid_w rfl 67 _ rfl (w.heap.size + 1) 0 rfl _ _ RG.out Tryz.underlying67 rfl (by rw [Array.length_toList, HRK.out]; kernel_rfl) ?_)
      | ((with_reducible show wpList _ _ _ (⟨_, .store 67 _ _, _, _, _, _⟩ :: _) _ _); refine wpList_store_row rfl 67 _ _ rfl w.heap.size R rfl rfl 67 _ C0.out (by rw [HRK.out]; kernel_rfl) (by rw [HRK.out]; rfl) HALL.out ?_))
    exact bodyPost_ret (results_ivb rfl _ _ rfl _ rfl _ R HRK.out (blk_row C0.out R)) rfl ⟨by rw [HR.out]; rfl, bel_row CE.out (Nat.le_refl _) _⟩
  · obtain ⟨e0, e1, e2, e3, e4⟩ := VAt.of_blk B2.out
    simp only [Nat.zero_add] at e0 e1 e2 e3 e4
    obtain ⟨⟨a0, a1, a2, a3, a4⟩, ⟨b0, b1, b2, b3, b4⟩, b5, b6⟩ := IAt.of_blk B1.out
    simp only [Nat.zero_add] at a0 a1 a2 a3 a4 b0 b1 b2 b3 b4 b5 b6
    go_wp2_with (first
      | ((with_reducible show wpList _ _ _ (⟨_, .load 67 _, _, _, _, _⟩ :: _) _ _); refine wpl_name ?_; intro w5 hw5; have C1 : Hid (Blk w5 (w.heap.size + 1) 67 R) := (by rw [Hid, hw5]; refine Blk.cast9 (cs := R) ?_; first | exact ⟨_, B1.out, by rw [HR2.out]; rfl⟩ | exact ⟨_, (Blk.set_ B1.out _ _), by rw [HR2.out]; rfl⟩ | exact ⟨_, (Blk.set_ (Blk.set_ B1.out _ _) _ _), by rw [HR2.out]; rfl⟩); have C0 : Hid (Blk w5 w.heap.size 67 (arrI zI)) := (by rw [Hid, hw5]; (repeat' refine Blk.far ?_ (by show w.heap.size ≠ w.heap.size + 1; omega) _); exact B0.out); have CE : Hid (Below w.heap.size w w5) := (by rw [Hid, hw5]; (repeat' refine Below.setCell ?_ (by show w.heap.size ≤ w.heap.size + 1; omega) _); exact BE.out); have RG : Hid (w5.rangeAt (w.heap.size + 1) 0 R.toList) := range_blk C1.out _ _ fun j v hj => (by rw [Nat.zero_add, ← hj, Array.getElem?_toList]); clear hw5 e0 e1 e2 e3 e4 a0 a1 a2 a3 a4 b0 b1 b2 b3 b4 b5 b6 B0 B1 B2 BE z1; refine wpList_mid_w rfl 67 _ rfl (w.heap.size + 1) 0 rfl _ _ RG.out Tryz.underlying67 rfl (by rw [Array.length_toList, HRK.out]; kernel_rfl) ?_)
      | ((with_reducible show wpList _ _ _ (⟨_, .store 67 _ _, _, _, _, _⟩ :: _) _ _); refine wpList_store_row rfl 67 _ _ rfl w.heap.size R rfl rfl 67 _ C0.out (by rw [HRK.out]; kernel_rfl) (by rw [HRK.out]; rfl) HALL.out ?_))
    exact bodyPost_ret (results_ivb rfl _ _ rfl _ rfl _ R HRK.out (blk_row C0.out R)) rfl ⟨by rw [HR.out]; rfl, bel_row CE.out (Nat.le_refl _) _⟩
  · obtain ⟨e0, e1, e2, e3, e4⟩ := VAt.of_blk B2.out
    simp only [Nat.zero_add] at e0 e1 e2 e3 e4
    obtain ⟨⟨a0, a1, a2, a3, a4⟩, ⟨b0, b1, b2, b3, b4⟩, b5, b6⟩ := IAt.of_blk B1.out
    simp only [Nat.zero_add] at a0 a1 a2 a3 a4 b0 b1 b2 b3 b4 b5 b6
    go_wp2_with (first
      | ((with_reducible show wpList _ _ _ (⟨_, .load 67 _, _, _, _, _⟩ :: _) _ _); refine wpl_name ?_; intro w5 hw5; have C1 : Hid (Blk w5 (w.heap.size + 1) 67 R) := (by rw [Hid, hw5]; refine Blk.cast9 (cs := R) ?_; first | exact ⟨_, B1.out, by rw [HR2.out]; rfl⟩ | exact ⟨_, (Blk.set_ B1.out _ _), by rw [HR2.out]; rfl⟩ | exact ⟨_, (Blk.set_ (Blk.set_ B1.out _ _) _ _), by rw [HR2.out]; rfl⟩); have C0 : Hid (Blk w5 w.heap.size 67 (arrI zI)) := (by rw [Hid, hw5]; (repeat' refine Blk.far ?_ (by show w.heap.size ≠ w.heap.size + 1; omega) _); exact B0.out); have CE : Hid (Below w.heap.size w w5) := (by rw [Hid, hw5]; (repeat' refine Below.setCell ?_ (by show w.heap.size ≤ w.heap.size + 1; omega) _); exact BE.out); have RG : Hid (w5.rangeAt (w.heap.size + 1) 0 R.toList) := range_blk C1.out _ _ fun j v hj => (by rw [Nat.zero_add, ← hj, Array.getElem?_toList]); clear hw5 e0 e1 e2 e3 e4 a0 a1 a2 a3 a4 b0 b1 b2 b3 b4 b5 b6 B0 B1 B2 BE z1; refine wpList_mid_w rfl 67 _ rfl (w.heap.size + 1) 0 rfl _ _ RG.out Tryz.underlying67 rfl (by rw [Array.length_toList, HRK.out]; kernel_rfl) ?_)
      | ((with_reducible show wpList _ _ _ (⟨_, .store 67 _ _, _, _, _, _⟩ :: _) _ _); refine wpList_store_row rfl 67 _ _ rfl w.heap.size R rfl rfl 67 _ C0.out (by rw [HRK.out]; kernel_rfl) (by rw [HRK.out]; rfl) HALL.out ?_))
    exact bodyPost_ret (results_ivb rfl _ _ rfl _ rfl _ R HRK.out (blk_row C0.out R)) rfl ⟨by rw [HR.out]; rfl, bel_row CE.out (Nat.le_refl _) _⟩
end Go.Proofs.YtfkapannahcjiaaGreatDoor


