/- Parts of the proof, joined: SortTB, RgSort, RgLaw, ValTexts, BlCmp, RgCmp, RgPair, RgEq, Kit6, ShAfter, IvSpans, IvMerged, IvMergedWalk. -/
import Derived.Test.YtfkapannahcjiaaGreatDoorAp19
import Derived.Test.YtfkapannahcjiaaGreatDoorAp18
import Derived.Test.YtfkapannahcjiaaGreatDoorAp16
import Derived.Test.YtfkapannahcjiaaGreatDoorAp11
import Derived.Test.YtfkapannahcjiaaGreatDoorAp2
import Derived.Test.YtfkapannahcjiaaGreatDoorAp1
import Derived.Test.YtfkapannahcjiaaGreatDoorAp14
import Derived.Test.YtfkapannahcjiaaGreatDoorAp3
import Derived.Test.YtfkapannahcjiaaGreatDoorAp17
import Derived.Test.YtfkapannahcjiaaGreatDoorAp7
import Derived.DeepKeys
import Derived.Laws.StructEq
import Derived.Deep.Quiet
import Derived.Laws.IdiomCopy
import Derived.Lib.SliceRun
import Derived.Laws.Concat
import Derived.Laws.OwnMore
/- The library's stable sort at one element type, any length. (Printed by gen_sort5.py B.) -/
namespace Go.Proofs.YtfkapannahcjiaaGreatDoor
open Go.RowKit

/-- the first blocks are sorted, the rest is as it was -/
structure DoneB (bs : Nat) (L0 : List (B2 × Nat)) (k : Nat) (A0 A R : List (B2 × Nat)) : Prop where
  e : L0 = A0 ++ R
  l0 : A0.length = k * bs
  l : A.length = k * bs
  s : ∀ q, q < k → Sorted cmB2 (blk bs q A0) (blk bs q A)

/-- the first pairs of blocks are merged, the other blocks are sorted -/
structure MidB (bs : Nat) (L0 : List (B2 × Nat)) (k : Nat) (A0 A R0 R : List (B2 × Nat)) : Prop where
  e : L0 = A0 ++ R0
  l0 : A0.length = k * (2 * bs)
  l : A.length = k * (2 * bs)
  rl : R.length = R0.length
  s : ∀ q, q < k → Sorted cmB2 (blk (2 * bs) q A0) (blk (2 * bs) q A)
  t : ∀ q, Sorted cmB2 (blk bs q R0) (blk bs q R)
/-- a pair of blocks to be merged -/
structure PairB (bs : Nat) (R0 R X0 Y0 D0 X Y D : List (B2 × Nat)) : Prop where
  e0 : R0 = X0 ++ (Y0 ++ D0)
  e : R = X ++ (Y ++ D)
  x0 : X0.length = bs
  x : X.length = bs
  y0 : Y0.length = bs ∨ (Y0.length ≤ bs ∧ D0 = [])
  y : Y.length = bs ∨ (Y.length ≤ bs ∧ D = [])
theorem pairB_of (bs : Nat) (R0 R : List (B2 × Nat)) (hl : R.length = R0.length) (hb : bs ≤ R.length) : PairB bs R0 R (R0.take bs) ((R0.drop bs).take bs) ((R0.drop bs).drop bs) (R.take bs) ((R.drop bs).take bs) ((R.drop bs).drop bs) := by
  have aux : ∀ l : List (B2 × Nat), (l.take bs).length = bs ∨ ((l.take bs).length ≤ bs ∧ l.drop bs = []) := fun l => by
    by_cases e : bs ≤ l.length
    · exact .inl (by rw [List.length_take]; omega)
    · exact .inr ⟨by rw [List.length_take]; omega, List.drop_eq_nil_of_le (by omega)⟩
  exact ⟨by rw [List.take_append_drop, List.take_append_drop], by rw [List.take_append_drop, List.take_append_drop], by rw [List.length_take]; omega, by rw [List.length_take]; omega, aux _, aux _⟩
theorem MidB.sorted {bs k : Nat} {L0 A0 A R0 R X0 Y0 D0 X Y D : List (B2 × Nat)} (h : MidB bs L0 k A0 A R0 R) (hp : PairB bs R0 R X0 Y0 D0 X Y D) : Sorted cmB2 X0 X ∧ Sorted cmB2 Y0 Y :=
  runs_tail hp.x0 hp.y0 hp.x hp.y (by have := h.t; rw [hp.e0, hp.e] at this; exact this)
theorem MidB.halves {bs k : Nat} {L0 A0 A R0 R X0 Y0 D0 X Y D : List (B2 × Nat)} (h : MidB bs L0 k A0 A R0 R) (hp : PairB bs R0 R X0 Y0 D0 X Y D) {g n : Nat} {w wr : World} (ht : Tagged L0) (hc : CmpOkB g w L0) (I : IsB g w (A ++ R) wr) (hn : n = L0.length) (hz : n * 32 ≤ reach) : HalvesB A X Y D g n wr := by
  obtain ⟨s1, s2⟩ := h.sorted hp
  have ht2 : Tagged (A0 ++ (X0 ++ (Y0 ++ D0))) := by rw [← hp.e0, ← h.e]; exact ht
  refine ⟨?_, ?_, hz, s1.2, s2.2, fun x hx y hy => ?_, hc.less I.but fun x hx => ?_⟩
  · have := I.row
    rw [hp.e] at this
    simpa using this
  · rw [hn, h.e, List.append_assoc, List.append_assoc, ← hp.e, List.length_append, List.length_append, h.l0, h.l, h.rl]
  · have q := (List.pairwise_append.1 (List.pairwise_append.1 ht2).2.1).2.2
    exact q x (s1.1.mem_iff.1 hx) y (by simp [s2.1.mem_iff.1 hy])
  · rw [h.e, hp.e0]
    rcases List.mem_append.1 hx with hx | hx
    · simp [s1.1.mem_iff.1 hx]
    · simp [s2.1.mem_iff.1 hx]
theorem MidB.next {bs k : Nat} {L0 A0 A R0 R X0 Y0 D0 X Y D S : List (B2 × Nat)} (h : MidB bs L0 k A0 A R0 R) (hp : PairB bs R0 R X0 Y0 D0 X Y D) (hS : Sorted cmB2 (X ++ Y) S) (hy : Y.length = bs) (hy0 : Y0.length = bs) : MidB bs L0 (k + 1) (A0 ++ (X0 ++ Y0)) (A ++ S) D0 D := by
  obtain ⟨s1, s2⟩ := h.sorted hp
  have hS2 := Sorted.both s1 s2 hS
  have l1 : (X0 ++ Y0).length = 2 * bs := by rw [List.length_append, hp.x0, hy0]; omega
  have l2 : (X ++ Y).length = 2 * bs := by rw [List.length_append, hp.x, hy]; omega
  refine ⟨?_, ?_, ?_, ?_, runs_step h.l0 h.l h.s l1 hS2, fun q => runs_rest l1 l2 ?_ q⟩
  · rw [h.e, hp.e0]; simp
  · rw [List.length_append, h.l0, l1]; exact (Nat.succ_mul k (2 * bs)).symm
  · rw [List.length_append, h.l, hS.1.length_eq, l2]; exact (Nat.succ_mul k (2 * bs)).symm
  · have := h.rl
    rw [hp.e, hp.e0] at this
    simp [hp.x, hp.x0, hy, hy0] at this
    exact this
  · have := h.t
    rw [hp.e0, hp.e] at this
    simpa using this

theorem MidB.last {bs k : Nat} {L0 A0 A R0 R X0 Y0 X Y S : List (B2 × Nat)} (h : MidB bs L0 k A0 A R0 R) (hp : PairB bs R0 R X0 Y0 [] X Y []) (hS : Sorted cmB2 (X ++ Y) S) (q : Nat) : Sorted cmB2 (blk (2 * bs) q L0) (blk (2 * bs) q (A ++ S)) := by
  obtain ⟨s1, s2⟩ := h.sorted hp
  have e : L0 = A0 ++ (X0 ++ Y0) := by rw [h.e, hp.e0, List.append_nil]
  rw [e]
  exact runs_last h.l0 h.l h.s (by rw [List.length_append, hp.x0]; rcases hp.y0 with q | ⟨q, _⟩ <;> omega) (Sorted.both s1 s2 hS) q
theorem MidB.lone {bs k : Nat} {L0 A0 A R0 R : List (B2 × Nat)} (h : MidB bs L0 k A0 A R0 R) (hl : R.length ≤ bs) (q : Nat) : Sorted cmB2 (blk (2 * bs) q L0) (blk (2 * bs) q (A ++ R)) := by
  rw [h.e]
  exact runs_last h.l0 h.l h.s (by rw [← h.rl]; omega) (runs_all (by rw [← h.rl]; exact hl) hl h.t) q
set_option maxRecDepth 100000 in
set_option maxHeartbeats 4000000 in
theorem stableB_any (H : Ordered cmB2) (L0 : List (B2 × Nat)) (g n c : Nat) (w : World) (hr : SRowB w g L0) (hn : n = L0.length) (hz : n * 32 ≤ reach) (ht : Tagged L0) (hc : CmpOkB g w L0) :
    Calls Tryz.prog 115 #[.slice (some ⟨g, 0, none⟩) n c, .int .i64 n, .func (.func 69) #[] #[]] w (IsDoneB g w [] L0 []) := by
  have HZ := Lib.hid hz
  unfold reach at hz
  have HN := Lib.hid hn
  have HT := Lib.hid ht
  have HC := Lib.hid hc
  have HO := Lib.hid H
  have I0 : Hid (IsB g w L0 w) := Lib.hid ⟨hr, But.refl⟩
  clear hr hn ht hc H
  go_enter Tryz.func115, Tryz.ntmps115
  go_wp2_with fail
  go_loopw [7, 8] (fun v7 v8 wr => ∃ (k a b : Nat) (A0 A R : List (B2 × Nat)), v7 = .int .i64 a ∧ v8 = .int .i64 b ∧ b = a + 20 ∧ a = k * 20 ∧ a ≤ n ∧ DoneB 20 L0 k A0 A R ∧ IsB g w (A ++ R) wr) (fun _ v8 _ => n + 40 - (intOf v8).toNat)
  case atStart => exact ⟨0, 0, 20, [], [], L0, rfl, rfl, rfl, rfl, Nat.zero_le _, ⟨rfl, rfl, rfl, fun q hq => absurd hq (by omega)⟩, I0.out⟩
  case round =>
    obtain ⟨k, a, b, A0, A, R, rfl, rfl, hb, hk, han, hD, I⟩ := hrel
    have HB := Lib.hid hb
    have HK := Lib.hid hk
    have HD := Lib.hid hD
    have J := Lib.hid I
    have hRl : R.length = n - a := by have h1 := HN.out; rw [hD.e] at h1; simp [hD.l0] at h1; omega
    have HRl := Lib.hid hRl
    clear hk hD I hRl
    by_cases hlt : b ≤ n
    · have hb2 : b = a + 20 := hb
      have hl1 : (R.take 20).length = 20 := by rw [List.length_take]; have := HRl.out; omega
      have HL1 := Lib.hid hl1
      have HR : Hid (R = R.take 20 ++ R.drop 20) := (List.take_append_drop 20 R).symm
      have HM : ∀ x ∈ R, x ∈ L0 := fun x hx => by rw [HD.out.e]; simp [hx]
      have HM' := Lib.hid HM
      clear hb hb2 hl1 HM
      go_wp2_with fail
      refine (isortB_any HO.out A (R.take 20) (R.drop 20) g n c a b _ (by rw [List.append_assoc, ← HR.out]; exact J.out.row) (by rw [List.append_assoc, ← HR.out, List.length_append, HD.out.l, HRl.out, ← HK.out]; omega) (by rw [HD.out.l]; exact HK.out) (by rw [HD.out.l, HL1.out, ← HK.out]; exact HB.out) HZ.out ?_ ?_).mono ?_
      · have := HT.out
        rw [HD.out.e, HR.out] at this
        exact (List.pairwise_append.1 (List.pairwise_append.1 this).2.1).1
      · exact HC.out.less J.out.but (fun x hx => HM'.out x (List.mem_of_mem_take hx))
      rintro e w1 ⟨rfl, S, hS, h1⟩
      have HS := Lib.hid hS
      have H1 := Lib.hid (J.out.then h1)
      clear hS h1
      go_wp2_with fail
      go_roundw
      case rel =>
        refine ⟨k + 1, b, b + 20, A0 ++ R.take 20, A ++ S, R.drop 20, rfl, by go_num, rfl, by have := HB.out; have := HK.out; omega, hlt, ⟨by rw [List.append_assoc, ← HR.out]; exact HD.out.e, ?_, ?_, ?_⟩, H1.out⟩
        · rw [List.length_append, HD.out.l0, HL1.out]; omega
        · rw [List.length_append, HD.out.l, HS.out.1.length_eq, HL1.out]; omega
        · exact runs_step HD.out.l0 HD.out.l HD.out.s HL1.out HS.out
      case measure => simp [intOf]; omega
    · have hRl2 : R.length ≤ 20 := by have := HRl.out; omega
      have HM : ∀ x ∈ R, x ∈ L0 := fun x hx => by rw [HD.out.e]; simp [hx]
      have HM' := Lib.hid HM
      clear hb HM
      go_wp2_with fail
      refine (isortB_any HO.out A R [] g n c a n _ (by rw [List.append_nil]; exact J.out.row) (by rw [List.append_nil, List.length_append, HD.out.l, HRl.out, ← HK.out]; omega) (by rw [HD.out.l]; exact HK.out) (by rw [HD.out.l, HRl.out, ← HK.out]; omega) HZ.out ?_ ?_).mono ?_
      · have := HT.out
        rw [HD.out.e] at this
        exact (List.pairwise_append.1 this).2.1
      · exact HC.out.less J.out.but HM'.out
      rintro e w1 ⟨rfl, S, hS, h1⟩
      have J1 : Hid (IsB g w (A ++ S) w1) := by have := J.out.then h1; rw [List.append_nil] at this; exact this
      have HR1 : Hid (∀ q, Sorted cmB2 (blk 20 q L0) (blk 20 q (A ++ S))) := by rw [Hid, HD.out.e]; exact runs_last HD.out.l0 HD.out.l HD.out.s hRl2 hS
      have HLl : Hid ((A ++ S).length = L0.length) := by rw [Hid, HD.out.e, List.length_append, List.length_append, HD.out.l, HD.out.l0, hS.1.length_eq]
      clear hS h1
      go_wp2_with fail
      go_loopw [6] (fun v6 wr => ∃ (bs : Nat) (L : List (B2 × Nat)), v6 = .int .i64 bs ∧ 20 ≤ bs ∧ bs ≤ 2 * n + 20 ∧ L.length = L0.length ∧ (∀ q, Sorted cmB2 (blk bs q L0) (blk bs q L)) ∧ IsB g w L wr) (fun v6 _ => n - (intOf v6).toNat)
      case atStart => exact ⟨20, A ++ S, rfl, Nat.le_refl _, by omega, HLl.out, HR1.out, J1.out⟩
      case round =>
        clear HB HK HD J HRl HM' J1 HR1 HLl
        obtain ⟨bs, L, rfl, hb1, hb2, hl, hR, I⟩ := hrel
        have HL := Lib.hid hl
        have HRu := Lib.hid hR
        have J := Lib.hid I
        clear hl hR I
        by_cases hlt2 : bs < n
        · go_wp2_with fail
          go_loopw [7, 8] (fun v7 v8 wr => ∃ (k a b : Nat) (A0 A R0 R : List (B2 × Nat)), v7 = .int .i64 a ∧ v8 = .int .i64 b ∧ b = a + 2 * bs ∧ a ≤ n ∧ A.length = a ∧ MidB bs L0 k A0 A R0 R ∧ IsB g w (A ++ R) wr) (fun _ v8 _ => n + 1 - (intOf v8).toNat)
          case atStart => exact ⟨0, 0, 2 * bs, [], [], L0, L, rfl, by go_num, by omega, Nat.zero_le _, rfl, ⟨rfl, by simp, by simp, HL.out, fun q hq => absurd hq (by omega), HRu.out⟩, J.out⟩
          case round =>
            clear HL HRu J
            obtain ⟨k, a, b, A0, A, R0, R, rfl, rfl, hb, han, hA, hM, I⟩ := hrel
            have HB := Lib.hid hb
            have HA := Lib.hid hA
            have HM := Lib.hid hM
            have J := Lib.hid I
            have hRl : R.length = n - a := by have h1 := HN.out; rw [hM.e] at h1; have h2 := hM.l0; have h3 := hM.l; simp at h1; rw [hM.rl]; omega
            have HRl := Lib.hid hRl
            clear hM I hA
            by_cases hlt3 : b ≤ n
            · obtain ⟨X0, Y0, D0, X, Y, D, hp⟩ : ∃ X0 Y0 D0 X Y D, PairB bs R0 R X0 Y0 D0 X Y D := ⟨_, _, _, _, _, _, pairB_of bs R0 R HM.out.rl (by omega)⟩
              have hy : Y.length = bs := by
                have h1 := HRl.out
                rw [hp.e, List.length_append, List.length_append, hp.x] at h1
                rcases hp.y with q | ⟨q, rfl⟩
                · exact q
                · simp at h1; omega
              have hy0 : Y0.length = bs := by
                have h1 := HRl.out
                rw [HM.out.rl, hp.e0, List.length_append, List.length_append, hp.x0] at h1
                rcases hp.y0 with q | ⟨q, rfl⟩
                · exact q
                · simp at h1; omega
              have HPa := Lib.hid hp
              have HY := Lib.hid hy
              have HY0 := Lib.hid hy0
              have hbn : a + 2 * bs ≤ n := by omega
              clear hp hy hy0 hb hRl
              go_wp2_with fail
              refine (symB_any HO.out _ A X Y D g n c a (a + bs) b _ _ _ _ (HM.out.halves HPa.out HT.out HC.out J.out HN.out HZ.out) HA.out.symm (by rw [HPa.out.x]) (by rw [HY.out]; have := HB.out; omega) (by rw [HPa.out.x]; omega) (by rw [HY.out]; omega) (Nat.lt_succ_self _) rfl (by omega) rfl).mono ?_
              rintro e w2 ⟨rfl, S, hS, h1⟩
              have HS := Lib.hid hS
              have H1 := Lib.hid (J.out.then h1)
              clear hS h1
              go_wp2_with fail
              go_roundw
              case rel =>
                exact ⟨k + 1, b, b + 2 * bs, _, A ++ S, _, D, rfl, by go_num, rfl, hlt3, by rw [List.length_append, HS.out.1.length_eq, List.length_append, HA.out, HPa.out.x, HY.out]; have := HB.out; omega, HM.out.next HPa.out HS.out HY.out HY0.out, H1.out⟩
              case measure => simp [intOf]; omega
            · have hab : n < a + 2 * bs := by omega
              clear hb hRl
              by_cases hm : a + bs < n
              · obtain ⟨X0, Y0, X, Y, hp⟩ : ∃ X0 Y0 X Y, PairB bs R0 R X0 Y0 [] X Y [] := by
                  have q := pairB_of bs R0 R HM.out.rl (by have := HRl.out; omega)
                  rw [show (R0.drop bs).drop bs = [] from List.eq_nil_of_length_eq_zero (by have := HRl.out; have := HM.out.rl; simp; omega), show (R.drop bs).drop bs = [] from List.eq_nil_of_length_eq_zero (by have := HRl.out; simp; omega)] at q
                  exact ⟨_, _, _, _, q⟩
                have hy : Y.length = n - a - bs := by have h1 := HRl.out; rw [hp.e] at h1; have := hp.x; simp at h1; omega
                have HPa := Lib.hid hp
                have HY := Lib.hid hy
                clear hp hy
                go_wp2_with fail
                refine (symB_any HO.out _ A X Y [] g n c a (a + bs) n _ _ _ _ (HM.out.halves HPa.out HT.out HC.out J.out HN.out HZ.out) HA.out.symm (by rw [HPa.out.x]) (by rw [HY.out]; omega) (by rw [HPa.out.x]; omega) (by rw [HY.out]; omega) (Nat.lt_succ_self _) rfl (by omega) rfl).mono ?_
                rintro e w2 ⟨rfl, S, hS, h1⟩
                have HS := Lib.hid hS
                have H1 : Hid (IsB g w (A ++ S) w2) := by have := J.out.then h1; rw [List.append_nil] at this; exact this
                clear hS h1
                go_wp2_with fail
                go_roundw
                case rel =>
                  exact ⟨2 * bs, A ++ S, by go_num, by omega, by omega, by rw [List.length_append, HS.out.1.length_eq, List.length_append, HA.out, HPa.out.x, HY.out, ← HN.out]; omega, HM.out.last HPa.out HS.out, H1.out⟩
                case measure => simp [intOf]; omega
              · go_wp2_with fail
                go_roundw
                case rel =>
                  exact ⟨2 * bs, A ++ R, by go_num, by omega, by omega, by rw [List.length_append, HA.out, HRl.out, ← HN.out]; omega, HM.out.lone (by have := HRl.out; omega), J.out⟩
                case measure => simp [intOf]; omega
        · have HE : Hid (Sorted cmB2 L0 L) := runs_all (by rw [← HN.out]; omega) (by rw [HL.out, ← HN.out]; omega) HRu.out
          go_wp2_with fail
          go_end0
          exact ⟨rfl, L, HE.out, by have := J.out; simpa using this⟩

end Go.Proofs.YtfkapannahcjiaaGreatDoor



/- Pairs of texts sorted: the library's stable sort with the comparison of shardkey.joined. -/
namespace Go.Proofs.YtfkapannahcjiaaGreatDoor
open Go.RowKit

theorem ordB : Ordered cmB2 := by
  refine ⟨fun x y => lex_anti (cmpB_anti _ _) (cmpB_anti _ _), fun x y z => TR.lx (cmpB_tr _ _ _) (cmpB_tr _ _ _)⟩
theorem isortB_nil (w : World) : Calls Tryz.prog 150 #[.slice none 0 0, .int .i64 0, .int .i64 0, .func (.func 69) #[] #[]] w fun e w' => e = .returned (.tuple #[]) ∧ w = w' := by
  go_enter Tryz.func150, Tryz.ntmps150
  go_wp2_with fail
  go_loopw [8] (fun v8 wr => v8 = .int .i64 1 ∧ wr = w) (fun _ _ => 0)
  case atStart => exact ⟨rfl, rfl⟩
  case round =>
    obtain ⟨rfl, rfl⟩ := hrel
    go_wp2_with fail
    go_end0
    exact ⟨rfl, rfl⟩
theorem stableB_nil (w : World) : Calls Tryz.prog 115 #[.slice none 0 0, .int .i64 0, .func (.func 69) #[] #[]] w fun e w' => e = .returned (.tuple #[]) ∧ w = w' := by
  go_enter Tryz.func115, Tryz.ntmps115
  go_wp2_with fail
  go_loop [7, 8] (fun v7 v8 => v7 = .int .i64 0 ∧ v8 = .int .i64 20) (fun _ _ => 0)
  case atStart => exact ⟨rfl, rfl⟩
  case round =>
    obtain ⟨rfl, rfl⟩ := hrel
    go_wp2_with fail
    refine (isortB_nil _).mono ?_
    rintro e w1 ⟨rfl, rfl⟩
    go_wp2_with fail
    go_loop [6] (fun v6 => v6 = .int .i64 20) (fun _ => 0)
    case atStart => rfl
    case round =>
      subst hrel
      go_wp2_with fail
      go_end0
      exact ⟨rfl, rfl⟩
theorem sortB_nil (w : World) : Calls Tryz.prog 68 #[.slice none 0 0, .func (.func 69) #[] #[]] w fun e w' => e = .returned (.tuple #[]) ∧ w = w' := by
  go_enter Tryz.func68, Tryz.ntmps68
  go_wp2_with fail
  refine (stableB_nil _).mono ?_
  rintro e w1 ⟨rfl, rfl⟩
  go_wp2_with fail
  go_end0
  exact ⟨rfl, rfl⟩
theorem sortB_any (L : List (B2 × Nat)) (g n c : Nat) (w : World) (hr : SRowB w g L) (hn : n = L.length) (hz : n * 32 ≤ reach) (ht : Tagged L) (hc : CmpOkB g w L) :
    Calls Tryz.prog 68 #[.slice (some ⟨g, 0, none⟩) n c, .func (.func 69) #[] #[]] w (IsDoneB g w [] L []) := by
  have HR := Lib.hid hr
  have HN := Lib.hid hn
  have HT := Lib.hid ht
  have HC := Lib.hid hc
  have HZ := Lib.hid hz
  clear hr hn ht hc hz
  go_enter Tryz.func68, Tryz.ntmps68
  go_wp2_with fail
  refine (stableB_any ordB L g n c _ HR.out HN.out HZ.out HT.out HC.out).mono ?_
  rintro e w1 hd
  have HD := Lib.hid hd
  obtain ⟨rfl, _⟩ := hd
  go_wp2_with fail
  go_end0
  exact HD.out

/-- the list is sorted by its beginnings -/
def SortedB (xs ys : List B2) : Prop := ys.Perm xs ∧ ys.Pairwise fun p q => cmB2 p q ≤ 0
theorem SortedB.of {xs : List B2} {S : List (B2 × Nat)} (h : Sorted cmB2 (tagFrom 0 xs) S) : SortedB xs (S.map Prod.fst) := by
  refine ⟨?_, ?_⟩
  · have := h.perm.map Prod.fst
    rwa [tagFrom_map] at this
  · rw [List.pairwise_map]
    refine h.ord.imp fun {a b} hab => ?_
    have hab' : cmB2 a.1 b.1 < 0 ∨ cmB2 a.1 b.1 = 0 ∧ a.2 < b.2 := hab
    omega
end Go.Proofs.YtfkapannahcjiaaGreatDoor



/- The joined ranges of a predicate's keys are apart. Plain law. -/
namespace Go.Proofs.YtfkapannahcjiaaGreatDoor

theorem AscR.inj {α : Type} {lt : α → α → Prop} (o : SOrd lt) : ∀ {l : List (α × α)}, AscR lt l → ∀ x ∈ l, ∀ y ∈ l, x.1 = y.1 → x = y
  | [], _, x, hx, _, _, _ => by simp at hx
  | a :: r, h, x, hx, y, hy, e => by
    obtain ⟨h1, h2⟩ := List.pairwise_cons.1 h
    rcases List.mem_cons.1 hx with kx | kx
    · rcases List.mem_cons.1 hy with ky | ky
      · rw [kx, ky]
      · subst kx; have := h1 y ky; rw [e] at this; exact absurd this (o.irr _)
    · rcases List.mem_cons.1 hy with ky | ky
      · subst ky; have := h1 x kx; rw [e] at this; exact absurd this (o.irr _)
      · exact AscR.inj o h2 x kx y ky e
theorem sorted_up {xs Z : List B2} (h : SortedB xs Z) : Z.Pairwise fun p q => ¬ ltB q.1 p.1 := h.2.imp fun k => cmB2_le k
theorem once_keys {S : Cut → Prop} {m : List (Cut × Cut)} (g : GoodS S) (h : IsNF S m) {Z : List B2} (hz : SortedB (m.map keyP) Z) : once Z = m.map keyP :=
  (asc_same sord_B (keys_asc g h) (xs := m.map keyP) (S := Z) (fun _ => Iff.rfl) (fun _ => hz.1.mem_iff) (sorted_up hz) ((keys_asc g h).inj sord_B) rfl).symm
theorem keys_apt {S : Cut → Prop} {m : List (Cut × Cut)} (g : GoodS S) (h : IsNF S m) {Z : List B2} (hz : SortedB (m.map keyP) Z) : AptR ltB ByteArray.empty (jAll ByteArray.empty (once Z)) := by
  rw [once_keys g h hz]
  exact jAll_apt sord_B (keys_step g h)
theorem hash_fix {ns : List Int} (_hn : ∀ n ∈ ns, In64 n) : ∀ x ∈ ns.map keyH, ∀ y ∈ ns.map keyH, x.1 = y.1 → x = y := by
  intro x hx y hy e
  obtain ⟨n, _, rfl⟩ := List.mem_map.1 hx
  obtain ⟨k, _, rfl⟩ := List.mem_map.1 hy
  exact hash_same e
theorem hash_asc {ns : List Int} (hn : ∀ n ∈ ns, In64 n) {Z : List B2} (hz : SortedB (ns.map keyH) Z) : AscR ltB (once Z) :=
  once_asc sord_B (sorted_up hz) fun x hx y hy => hash_fix hn x (hz.1.mem_iff.1 hx) y (hz.1.mem_iff.1 hy)
theorem hash_apt {ns : List Int} (hn : ∀ n ∈ ns, In64 n) {Z : List B2} (hz : SortedB (ns.map keyH) Z) : AptR ltB ByteArray.empty (jAll ByteArray.empty (once Z)) := by
  refine jAll_apt sord_B (hash_step (fun x hx => ?_) (hash_asc hn hz))
  obtain ⟨n, k, e⟩ := List.mem_map.1 (hz.1.mem_iff.1 ((once_mem x).1 hx))
  exact ⟨n, hn n k, e.symm⟩
/-- what Ranges computes -/
def RanOk (ha : Bool) (m : List (Cut × Cut)) (L : List B2) : Prop :=
  (ha = false ∧ ∃ Z, SortedB (m.map keyP) Z ∧ L = jAll ByteArray.empty (once Z)) ∨
    (ha = true ∧ L = [(ByteArray.empty, ByteArray.empty)] ∧ ∃ s ∈ m, cmpV s.1.1 s.2.1 ≠ 0) ∨
    (ha = true ∧ (∀ s ∈ m, cmpV s.1.1 s.2.1 = 0) ∧ ∃ Z, SortedB ((m.map fun s => hashV s.1.1).map keyH) Z ∧ L = jAll ByteArray.empty (once Z))
theorem hash_in64 (x : Val) : In64 (hashV x) := by
  have := hashV_range x
  unfold In64
  omega
theorem ran_apt {ha : Bool} {S : Cut → Prop} {m : List (Cut × Cut)} {L : List B2} (g : GoodS S) (h : IsNF S m) (hr : RanOk ha m L) : AptR ltB ByteArray.empty L := by
  rcases hr with ⟨_, Z, hz, rfl⟩ | ⟨_, rfl, _⟩ | ⟨_, _, Z, hz, rfl⟩
  · exact keys_apt g h hz
  · refine ⟨fun x hx => ?_, fun i x y hx hy => ?_⟩
    · simp at hx; subst hx; exact .inl rfl
    · have := (List.getElem?_eq_some_iff.1 hy).1
      simp at this
  · refine hash_apt (fun n hn => ?_) hz
    obtain ⟨s, _, rfl⟩ := List.mem_map.1 hn
    exact hash_in64 _
end Go.Proofs.YtfkapannahcjiaaGreatDoor



/- Contracts of the reference's Ints and Texts. -/
namespace Go.Proofs.YtfkapannahcjiaaGreatDoor
open Go.RowKit

theorem cmpBy_at (a b : UInt8) (l m : List UInt8) : Lib.compareBytes (a :: l) (b :: m) = if (a.toNat : Int) = (b.toNat : Int) then Lib.compareBytes l m else cmpI (a.toNat : Int) (b.toNat : Int) := by
  rw [Lib.compareBytes]
  unfold cmpI Lib.compareInt
  have e1 : a < b ↔ a.toNat < b.toNat := UInt8.lt_iff_toNat_lt
  have e2 : b < a ↔ b.toNat < a.toNat := UInt8.lt_iff_toNat_lt
  rcases Nat.lt_trichotomy a.toNat b.toNat with h | h | h
  · rw [if_pos (e1.2 h), if_neg (by omega), if_pos (by omega)]
  · rw [if_neg (by rw [e1]; omega), if_neg (by rw [e2]; omega), if_pos (by omega)]
  · rw [if_neg (by rw [e1]; omega), if_pos (e2.2 h), if_neg (by omega), if_neg (by omega), if_pos (by omega)]

end Go.Proofs.YtfkapannahcjiaaGreatDoor



/- The order of texts as the program compares them. Plain law. -/
namespace Go.Proofs.YtfkapannahcjiaaGreatDoor
open Go.RowKit
set_option linter.unusedSimpArgs false

theorem bl_cons (a b : UInt8) (x y : List UInt8) : Op.bytesLess (a :: x) (b :: y) = true ↔ a.toNat < b.toNat ∨ (a = b ∧ Op.bytesLess x y = true) := by
  simp [Op.bytesLess, UInt8.lt_iff_toNat_lt]
theorem bl_cmp : ∀ l m : List UInt8, Op.bytesLess l m = true ↔ Lib.compareBytes l m < 0
  | [], [] => by decide
  | [], b :: m => by simp [Op.bytesLess, Lib.compareBytes]
  | a :: l, [] => by simp [Op.bytesLess, Lib.compareBytes]
  | a :: l, b :: m => by
    have ih := bl_cmp l m
    rw [bl_cons, cmpBy_at]
    by_cases h : (a.toNat : Int) = (b.toNat : Int)
    · rw [if_pos h, ← ih]
      have h2 : a = b := UInt8.toNat_inj.1 (by omega)
      constructor
      · rintro (h3 | h3)
        · omega
        · exact h3.2
      · intro h3; exact .inr ⟨h2, h3⟩
    · rw [if_neg h]
      simp only [cmpI, Lib.compareInt]
      constructor
      · rintro (h3 | h3)
        · rw [if_pos (by omega)]; omega
        · exact absurd (congrArg (fun x : UInt8 => (x.toNat : Int)) h3.1) h
      · intro h3
        by_cases h4 : a.toNat < b.toNat
        · exact .inl h4
        · exfalso
          rw [if_neg (by omega)] at h3
          split at h3 <;> omega
theorem bl_cmpB (a b : ByteArray) : Op.bytesLess a.toList b.toList = decide (cmpB a b < 0) := by
  have h := bl_cmp a.data.toList b.data.toList
  rw [Go.ByteArray.toList_eq, Go.ByteArray.toList_eq]
  show _ = decide (Lib.compareBytes a.data.toList b.data.toList < 0)
  rw [Bool.eq_iff_iff, h, decide_eq_true_iff]
end Go.Proofs.YtfkapannahcjiaaGreatDoor



/- The comparison of pairs of texts: cmp.Compare at strings, cmp.Or at two numbers, shardkey.joined's. -/
namespace Go.Proofs.YtfkapannahcjiaaGreatDoor
open Go.RowKit

theorem nanS_any (x : ByteArray) (w : World) : Calls Tryz.prog 116 #[.string x] w fun e w' => e = .returned (.bool false) ∧ w = w' := by
  go_enter Tryz.func116, Tryz.ntmps116
  go_wp2_with fail
  go_ret
  exact ⟨by simp, rfl⟩
theorem cmpS_any (x y : ByteArray) (w : World) : Calls Tryz.prog 71 #[.string x, .string y] w fun e w' => e = .returned (.int .i64 (cmpB x y)) ∧ w = w' := by
  have h1 := bl_cmpB x y
  have an := cmpB_anti x y
  have rg := cmpB_rng x y
  have hz : (x.toList == y.toList) = decide (cmpB x y = 0) := by
    rw [Bool.eq_iff_iff, beq_iff_eq, decide_eq_true_iff, cmpB_zero, Go.ByteArray.toList_eq, Go.ByteArray.toList_eq]
    constructor
    · intro h; exact ByteArray.ext (Array.toList_inj.1 h)
    · intro h; rw [h]
  obtain ⟨c, hc⟩ : ∃ c, c = cmpB x y := ⟨_, rfl⟩
  rw [← hc] at h1 hz rg ⊢
  have h3 : c = -1 ∨ c = 0 ∨ c = 1 := by omega
  clear hc rg an
  rcases h3 with rfl | rfl | rfl
  all_goals
    first | replace h1 : Op.bytesLess x.toList y.toList = true := h1 | replace h1 : Op.bytesLess x.toList y.toList = false := h1
    first | replace hz : (x.toList == y.toList) = true := hz | replace hz : (x.toList == y.toList) = false := hz
    go_enter Tryz.func71, Tryz.ntmps71
    go_wp2_with fail
    refine (nanS_any x _).mono ?_
    rintro e w1 ⟨rfl, rfl⟩
    go_wp2_with fail
    refine (nanS_any y _).mono ?_
    rintro e w1 ⟨rfl, rfl⟩
    go_wp2_with fail
    go_ret
    exact ⟨rfl, rfl⟩
theorem or2_any (x y : Int) (g : Nat) (t : TypeId) (w : World) (h : Blk w g t #[.int .i64 x, .int .i64 y]) : Calls Tryz.prog 70 #[.slice (some ⟨g, 0, none⟩) 2 2] w fun e w' => e = .returned (.int .i64 (lex x y)) ∧ Below w.heap.size w w' := by
  have H := Lib.hid h
  have q0 := h.cell 0
  have q1 := h.cell 1
  simp at q0 q1
  clear h
  go_enter Tryz.func70, Tryz.ntmps70
  go_wp2_with fail
  go_loopw [8] (fun v wr => (v = .int .i64 0 ∨ v = .int .i64 1 ∧ x = 0 ∨ v = .int .i64 2 ∧ x = 0 ∧ y = 0) ∧ wr = w) (fun v _ => match v with | .int _ n => (5 - n).toNat | _ => 0)
  case atStart => exact ⟨.inl rfl, rfl⟩
  case round =>
    obtain ⟨rfl | ⟨rfl, rfl⟩ | ⟨rfl, rfl, rfl⟩, rfl⟩ := hrel
    · by_cases h0 : x = 0
      · subst h0
        go_wp2_with fail
        refine ⟨by simp, by decide⟩
      · have hx : (x != 0) = true := by simpa using h0
        have HL : Hid (lex x y = x) := Lib.hid (by unfold lex; rw [if_pos h0])
        clear h0
        go_wp2_with fail
        go_ret
        exact ⟨by rw [HL.out]; rfl, Below.refl _ _⟩
    · have HL : Hid (lex 0 y = y) := Lib.hid rfl
      by_cases h0 : y = 0
      · subst h0
        go_wp2_with fail
        refine ⟨by simp, by decide⟩
      · have hx : (y != 0) = true := by simpa using h0
        clear h0
        go_wp2_with fail
        go_ret
        exact ⟨by rw [HL.out]; rfl, Below.refl _ _⟩
    · go_wp2_with fail
      go_ret
      exact ⟨rfl, Below.refl _ _⟩
end Go.Proofs.YtfkapannahcjiaaGreatDoor



/- shardkey.joined's comparison of pairs of texts. -/
namespace Go.Proofs.YtfkapannahcjiaaGreatDoor
open Go.RowKit

set_option maxRecDepth 100000 in
set_option maxHeartbeats 4000000 in
theorem pcmp_any (p q : B2) (w : World) : Calls Tryz.prog 69 #[.agg #[.string p.1, .string p.2], .agg #[.string q.1, .string q.2]] w fun e w' => e = .returned (.int .i64 (cmB2 p q)) ∧ Below w.heap.size w w' := by
  have B0 : Hid (Blk ((w.alloc (Obj.cells #[.string p.1, .string p.2] 45)).alloc (Obj.cells #[.string q.1, .string q.2] 45)) w.heap.size 45 #[.string p.1, .string p.2]) := (Blk.new_at rfl).alloc _
  have B1 : Hid (Blk ((w.alloc (Obj.cells #[.string p.1, .string p.2] 45)).alloc (Obj.cells #[.string q.1, .string q.2] 45)) (w.heap.size + 1) 45 #[.string q.1, .string q.2]) := Blk.new_at (by simp)
  have BE : Hid (Below w.heap.size w ((w.alloc (Obj.cells #[.string p.1, .string p.2] 45)).alloc (Obj.cells #[.string q.1, .string q.2] 45))) := ((Below.refl _ _).alloc (Nat.le_refl _) _).alloc (by simp) _
  have HL : Hid (cmB2 p q = lex (cmpB p.1 q.1) (cmpB p.2 q.2)) := Lib.hid rfl
  go_enter Tryz.func69, Tryz.ntmps69
  go_upto_region 1 with fail
  change Code.wp _ _ _ _ ((w.alloc (Obj.cells #[.string p.1, .string p.2] 45)).alloc (Obj.cells #[.string q.1, .string q.2] 45))
  generalize ((w.alloc (Obj.cells #[.string p.1, .string p.2] 45)).alloc (Obj.cells #[.string q.1, .string q.2] 45)) = wa at *
  have KS : Hid (∀ w', Below wa.heap.size wa w' → w'.cell? ⟨w.heap.size, 0, none⟩ = some (.string p.1) ∧ w'.cell? ⟨w.heap.size, 1, none⟩ = some (.string p.2) ∧ w'.cell? ⟨w.heap.size + 1, 0, none⟩ = some (.string q.1) ∧ w'.cell? ⟨w.heap.size + 1, 1, none⟩ = some (.string q.2)) := Lib.hid fun w' hb =>
    ⟨((B0.out.step hb).cell 0).trans rfl, ((B0.out.step hb).cell 1).trans rfl, ((B1.out.step hb).cell 0).trans rfl, ((B1.out.step hb).cell 1).trans rfl⟩
  have B := Lib.hid ((Below.refl wa.heap.size wa).drewN 1)
  obtain ⟨k1, hk1⟩ : ∃ k, k = cmpB p.1 q.1 := ⟨_, rfl⟩
  obtain ⟨k2, hk2⟩ : ∃ k, k = cmpB p.2 q.2 := ⟨_, rfl⟩
  have C1 : Hid (∀ wr, Calls Tryz.prog 71 #[.string p.1, .string q.1] wr fun e w' => e = .returned (.int .i64 k1) ∧ wr = w') := Lib.hid fun wr => by rw [hk1]; exact cmpS_any _ _ _
  have C2 : Hid (∀ wr, Calls Tryz.prog 71 #[.string p.2, .string q.2] wr fun e w' => e = .returned (.int .i64 k2) ∧ wr = w') := Lib.hid fun wr => by rw [hk2]; exact cmpS_any _ _ _
  rw [← hk1, ← hk2] at HL
  clear hk1 hk2
  go_region_held3 (fun w' => w'.cell? ⟨w.heap.size, 0, none⟩ = some (.string p.1) ∧ w'.cell? ⟨w.heap.size, 1, none⟩ = some (.string p.2) ∧ w'.cell? ⟨w.heap.size + 1, 0, none⟩ = some (.string q.1) ∧ w'.cell? ⟨w.heap.size + 1, 1, none⟩ = some (.string q.2))
    (first | exact KS.out _ B.out | exact KS.out _ (B.out.alloc B.out.size _) | ((try dsimp only); assumption) | go_keep)
    (first
      | (go_at_call 71; with_reducible refine (C1.out _).mono ?_; rintro e3 w3 ⟨rfl, rfl⟩)
      | (go_at_call 71; with_reducible refine (C2.out _).mono ?_; rintro e3 w3 ⟨rfl, rfl⟩)
      | (go_at_call 70; refine (or2_any k1 k2 wa.heap.size 3 _ (Blk.drew (Blk.new_at rfl))).mono ?_; rintro e3 w3 ⟨rfl, hb⟩; replace B := Lib.hid (((Below.refl _ _).alloc (Nat.le_refl _) _).drew.step' hb); clear hb))
  all_goals
    go_wp2_with fail
    go_ret
    exact ⟨by rw [HL.out]; rfl, BE.out.step' B.out⟩
end Go.Proofs.YtfkapannahcjiaaGreatDoor



/- Pairs of texts compared as arrays. -/
namespace Go.Proofs.YtfkapannahcjiaaGreatDoor
open Go Go.RowKit

theorem eqB_run (p q : B2) (w : World) : (Op.equal 45 (.agg #[.string p.1, .string p.2]) (.agg #[.string q.1, .string q.2])).run Tryz.prog w = .ok (decide (p = q)) w := by
  obtain ⟨i, hi⟩ := info_of_underlying (P := Tryz.prog) Tryz.underlying9
  have h := run_equalIn_array (P := Tryz.prog) w 9999 #[.string p.1, .string p.2] #[.string q.1, .string q.2] (t := 45) (e := 9) (n := 2) Tryz.underlying45 hi
  have e : decide (p = q) = ((p.1.toList == q.1.toList) && (p.2.toList == q.2.toList)) := by
    rw [Bool.eq_iff_iff, decide_eq_true_iff, Bool.and_eq_true, beq_iff_eq, beq_iff_eq]
    constructor
    · rintro rfl; exact ⟨rfl, rfl⟩
    · rintro ⟨h1, h2⟩
      refine Prod.ext ?_ ?_
      · rw [Go.ByteArray.toList_eq, Go.ByteArray.toList_eq] at h1
        exact ByteArray.ext (Array.toList_inj.1 h1)
      · rw [Go.ByteArray.toList_eq, Go.ByteArray.toList_eq] at h2
        exact ByteArray.ext (Array.toList_inj.1 h2)
  rw [e]
  show (Op.equalIn (9999 + 1) 45 _ _).run _ _ = _
  rw [h]
  have hs : ∀ (a b : ByteArray), (Op.equalIn 9999 9 (.string a) (.string b)).run Tryz.prog w = .ok (a.toList == b.toList) w := fun a b => run_equalIn_string w 9998 _ a b Tryz.underlying9
  have hc : Tryz.prog.cellsOf 9 = 1 := by kernel_rfl
  have hp : ∀ (xs : Array Value) (k : Nat) (a : ByteArray), xs[k]? = some (.string a) → (part 9 xs k).run Tryz.prog w = .ok (.string a) w := by
    intro xs k a hk
    simp [part, run_underlying Tryz.underlying9, isAgg, hk]
  simp [Op.eqItems, List.range, List.range.loop, hc, hp, hs]
  by_cases h1 : p.1.toList = q.1.toList <;> by_cases h2 : p.2.toList = q.2.toList <;> simp [h1, h2]
theorem guardB : Tryz.prog.eqGuardType Tryz.prog.depth 45 = false := by kernel_rfl
theorem execB_eql {ev : Operand → Value} {o : Oper} {x y : Operand} {t2 : TypeId} (p q : B2) (w : World) (ho : o.op = .binOp .eql 45 x y t2) (hx : ev x = .agg #[.string p.1, .string p.2]) (hy : ev y = .agg #[.string q.1, .string q.2]) :
    (execOp ev o).run Tryz.prog w = .ok (.value (.bool (decide (p = q)))) w := by
  unfold execOp
  rw [ho]
  have h1 := eqB_run p q w
  have h2 : (binOp .eql 45 (.agg #[.string p.1, .string p.2]) (.agg #[.string q.1, .string q.2])).run Tryz.prog w = .ok (.bool (decide (p = q))) w := by
    show (do pure (Value.bool (← Op.equal _ _ _))).run _ _ = _
    rw [Sem.run_bind, h1]; rfl
  simp only [hx, hy, Sem.run_bind, run_eqGuard_agg _ _ _ _ _ _ _ guardB, Result.andThen_ok, h2, Sem.run_pure]
theorem execB_neq {ev : Operand → Value} {o : Oper} {x y : Operand} {t2 : TypeId} (p q : B2) (w : World) (ho : o.op = .binOp .neq 45 x y t2) (hx : ev x = .agg #[.string p.1, .string p.2]) (hy : ev y = .agg #[.string q.1, .string q.2]) :
    (execOp ev o).run Tryz.prog w = .ok (.value (.bool (!decide (p = q)))) w := by
  unfold execOp
  rw [ho]
  have h1 := eqB_run p q w
  have h2 : (binOp .neq 45 (.agg #[.string p.1, .string p.2]) (.agg #[.string q.1, .string q.2])).run Tryz.prog w = .ok (.bool (!decide (p = q))) w := by
    show (do pure (Value.bool (!(← Op.equal _ _ _)))).run _ _ = _
    rw [Sem.run_bind, h1]; rfl
  simp only [hx, hy, Sem.run_bind, run_eqGuard_agg _ _ _ _ _ _ _ guardB, Result.andThen_ok, h2, Sem.run_pure]
theorem quietB_eql {C : World → Prop} {K : Act → Prop} {a : Act} {o : Oper} {x y : Operand} {t2 : TypeId} (p q : B2) {z : Bool} (hz : z = decide (p = q)) (ho : o.op = .binOp .eql 45 x y t2) (hx : a.eval x = .agg #[.string p.1, .string p.2]) (hy : a.eval y = .agg #[.string q.1, .string q.2])
    (h : K (a.put o.dst (.bool z))) : o.quiet Tryz.prog a C K := by
  refine ⟨.bool z, fun w _ => ?_, h⟩
  unfold Oper.quietAt
  rw [execB_eql p q w ho hx hy, hz]
  exact ⟨rfl, rfl⟩
theorem quietB_neq {C : World → Prop} {K : Act → Prop} {a : Act} {o : Oper} {x y : Operand} {t2 : TypeId} (p q : B2) {z : Bool} (hz : z = !decide (p = q)) (ho : o.op = .binOp .neq 45 x y t2) (hx : a.eval x = .agg #[.string p.1, .string p.2]) (hy : a.eval y = .agg #[.string q.1, .string q.2])
    (h : K (a.put o.dst (.bool z))) : o.quiet Tryz.prog a C K := by
  refine ⟨.bool z, fun w _ => ?_, h⟩
  unfold Oper.quietAt
  rw [execB_neq p q w ho hx hy, hz]
  exact ⟨rfl, rfl⟩
end Go.Proofs.YtfkapannahcjiaaGreatDoor



/- Parts of rows; stores of many cells into a block. -/
namespace Go.Proofs.YtfkapannahcjiaaGreatDoor
open Go.RowKit

theorem Reads.take {w : World} {B size n : Nat} {A : Option Addr} {xs : List Value} (h : Reads w B size A n xs) {k : Nat} (hk : k ≤ n) : Reads w B size A k (xs.take (k * size)) := by
  refine ⟨by rw [List.length_take, h.1]; exact Nat.min_eq_left (Nat.mul_le_mul_right _ hk), fun hn => ?_⟩
  obtain ⟨ad, rfl, hb, hc⟩ := h.2 (by omega)
  refine ⟨ad, rfl, hb, fun j u hu => hc j u ?_⟩
  rw [List.getElem?_take] at hu
  split at hu
  · exact hu
  · cases hu
theorem Blk.setCells {g : Nat} {t : TypeId} : ∀ (vs : List Value) {l : List Value} (o : Nat) {w : World}, Blk w g t l.toArray → Blk (w.setCells g o vs) g t (setList l o vs).toArray
  | [], _, _, _, h => h
  | v :: r, l, o, w, h => by
    have h1 := h.set_ o v
    rw [show l.toArray.setIfInBounds o v = (l.set o v).toArray by simp] at h1
    exact Blk.setCells r (o + 1) h1
theorem heap_setCells (g : Nat) : ∀ (vs : List Value) (o : Nat) (w : World) (b : Nat), b ≠ g → (w.setCells g o vs).heap[b]? = w.heap[b]?
  | [], _, _, _, _ => rfl
  | v :: r, o, w, b, h => by
    rw [World.setCells, heap_setCells g r (o + 1) _ b h]
    exact Below.heap_setCell w ⟨g, o, none⟩ v b h
theorem But.setCells {g : Nat} {w : World} : ∀ (vs : List Value) (o : Nat) {w1 : World}, But g w w1 → But g w (w1.setCells g o vs)
  | [], _, _, h => h
  | v :: r, o, _, h => But.setCells r (o + 1) (h.set (p := ⟨g, o, none⟩) rfl v)
end Go.Proofs.YtfkapannahcjiaaGreatDoor



/- Small contracts for the first checks of the layers shardkey and router: After at two keys, sorting and compacting one range. -/
namespace Go.Proofs.YtfkapannahcjiaaGreatDoor
open Go.RowKit

set_option maxHeartbeats 1000000 in
theorem isort1_any (A : Option Addr) (c : Nat) (f : Value) (w : World) :
    Calls Tryz.prog 150 #[.slice A 1 c, .int .i64 0, .int .i64 1, f] w fun e w' => e = .returned (.tuple #[]) ∧ w' = w := by
  go_enter Tryz.func150, Tryz.ntmps150
  go_wp2_with fail
  go_loopw [8, 9] (fun v8 _ wr => v8 = .int .i64 1 ∧ wr = w) (fun _ _ _ => 0)
  case atStart => exact ⟨rfl, rfl⟩
  case round =>
    obtain ⟨rfl, rfl⟩ := hrel
    go_wp2_with fail
    go_end0
    exact ⟨rfl, rfl⟩

set_option maxHeartbeats 1000000 in
theorem stable1_any (A : Option Addr) (c : Nat) (f : Value) (w : World) :
    Calls Tryz.prog 115 #[.slice A 1 c, .int .i64 1, f] w fun e w' => e = .returned (.tuple #[]) ∧ w' = w := by
  go_enter Tryz.func115, Tryz.ntmps115
  go_wp2_with fail
  go_loop [7, 8] (fun v7 v8 => v7 = .int .i64 0 ∧ v8 = .int .i64 20) (fun _ _ => 0)
  case atStart => exact ⟨rfl, rfl⟩
  case round =>
    obtain ⟨rfl, rfl⟩ := hrel
    go_wp2_with fail
    refine (isort1_any _ _ _ _).mono ?_
    rintro e w1 ⟨rfl, rfl⟩
    go_wp2_with fail
    go_loop [6, 7, 8, 9] (fun v6 _ _ _ => v6 = .int .i64 20) (fun _ _ _ _ => 0)
    case atStart => rfl
    case round =>
      subst hrel
      go_wp2_with fail
      go_end0
      exact ⟨rfl, rfl⟩

set_option maxHeartbeats 1000000 in
theorem sstable1_any (A : Option Addr) (c : Nat) (f : Value) (w : World) :
    Calls Tryz.prog 68 #[.slice A 1 c, f] w fun e w' => e = .returned (.tuple #[]) ∧ w' = w := by
  go_enter Tryz.func68, Tryz.ntmps68
  go_wp2_with fail
  refine (stable1_any _ _ _ _).mono ?_
  rintro e w1 ⟨rfl, rfl⟩
  go_wp2_with fail
  go_end0
  exact ⟨rfl, rfl⟩

set_option maxHeartbeats 1000000 in
theorem compact1_any (A : Option Addr) (c : Nat) (w : World) :
    Calls Tryz.prog 72 #[.slice A 1 c] w fun e w' => e = .returned (.slice A 1 c) ∧ w' = w := by
  go_enter Tryz.func72, Tryz.ntmps72
  go_wp2_with fail
  go_ret
  exact ⟨rfl, rfl⟩

set_option maxRecDepth 100000 in
set_option maxHeartbeats 1000000 in
theorem after9_any (s : ByteArray) (x : Nat) (w : World) (hs : s.size = 9) (hx : ((s[8]'(by omega)).toNat : Int) = (x : Int)) (hx2 : x < 255) :
    Calls Tryz.prog 67 #[.string s] w fun e w' => e = .returned (.tuple #[.string (s.extract 0 8 ++ strOfNums [((x + 1 : Nat) : Int)]), .bool true]) ∧ Below w.heap.size w w' := by
  have h1 : ((x : Int) == 255) = false := by simp; omega
  have h2 : ((x : Int) + 1) % 256 = ((x + 1 : Nat) : Int) := by omega
  obtain ⟨z, hz⟩ : ∃ z : Int, z = ((x + 1 : Nat) : Int) := ⟨_, rfl⟩
  have hzx : z = (x : Int) + 1 := by omega
  have hcv : (convert 108 9 (.slice (some ⟨w.heap.size, 0, none⟩) 1 1)).run Tryz.prog ((w.alloc (Obj.cells #[.int .u8 ((x : Int) + 1)] 5)).drew) = .ok (.string (strOfNums [z])) ((w.alloc (Obj.cells #[.int .u8 ((x : Int) + 1)] 5)).drew) := by
    rw [← hzx]
    refine run_convert_bytes_arg (P := Tryz.prog) _ 108 5 Tryz.underlying108 Tryz.underlying5 w.heap.size 0 1 1 [z] rfl (fun i hi => ?_) 9 Tryz.underlying9
    obtain rfl : i = 0 := by omega
    exact (Blk.new w 5 #[.int .u8 z]).drew.cell 0
  rw [← hz]
  obtain ⟨Z, hZ⟩ : ∃ Z, Z = strOfNums [z] := ⟨_, rfl⟩
  rw [← hZ] at hcv ⊢
  have hZs : Z.size = 1 := by rw [hZ, strOfNums_size]; rfl
  have HZ := Lib.hid hZ
  have HZZ := Lib.hid hz
  clear hz hZ h2 hzx
  go_enter Tryz.func67, Tryz.ntmps67
  go_upto_region 2 with fail
  go_loopw [4] (fun v wr => v = .int .i64 9 ∧ wr = w) (fun _ _ => 0)
  case atStart => exact ⟨rfl, rfl⟩
  case round =>
    obtain ⟨rfl, rfl⟩ := hrel
    go_wp2_with fail
    go_region
    all_goals
      go_wp2_with fail
      go_ret2
      exact ⟨rfl, ((Below.refl _ _).alloc (Nat.le_refl _) _).drew⟩

end Go.Proofs.YtfkapannahcjiaaGreatDoor



/- The contract of interval.spans. -/
namespace Go.Proofs.YtfkapannahcjiaaGreatDoor
open Go.RowKit

/-- a slice of spans is handed back -/
def SpOk (is : List PI) (w : World) (e : Ending) (w' : World) : Prop :=
  ∃ (A : Option Addr) (m c : Nat) (xs : List PS), e = .returned (.slice A m c) ∧ xs.map spP = spansL (is.map ivP) ∧ (∀ x ∈ xs, ∃ p ∈ is, x = spanP p) ∧ m ≤ is.length ∧ SS w' A m c xs ∧ Below w.heap.size w w'

/-- the loop of spans -/
structure SpI (w : World) (is : List PI) (i : Nat) (v : Value) (xs : List PS) (wr : World) : Prop where
  own : wr.ownsRow w.heap.size 127 12 v xs.length (flat recS xs)
  eq : xs.map spP = spansL ((is.take i).map ivP)
  le : xs.length ≤ i
  ok : ∀ x ∈ xs, okS w x
  pr : ∀ x ∈ xs, ∃ p ∈ is, x = spanP p
  bel : Below w.heap.size w wr
theorem SpI.step {w : World} {is : List PI} {i : Nat} {v : Value} {xs : List PS} {wr w' : World} (h : SpI w is i v xs wr) (hb : Below wr.heap.size wr w') : SpI w is i v xs w' := ⟨own_step h.own hb, h.eq, h.le, h.ok, h.pr, h.bel.step' hb⟩
theorem SpI.skip {w : World} {is : List PI} {i : Nat} {v : Value} {xs : List PS} {wr : World} {p : PI} (h : SpI w is i v xs wr) (hp : is[i]? = some p) (hn : (ivP p).ne = false) : SpI w is (i + 1) v xs wr := by
  refine ⟨h.own, ?_, by have := h.le; omega, h.ok, h.pr, h.bel⟩
  rw [take_snoc' hp, List.map_append, List.map_singleton, spansL_snoc, hn]
  exact h.eq
theorem SpI.next {w : World} {is : List PI} {i m : Nat} {v v' : Value} {xs : List PS} {wr w' : World} {p : PI} (h : SpI w is i v xs wr) (hp : is[i]? = some p) (hn : (ivP p).ne = true) (hok : okI w p) (hg : wr.grownBy w' v.ownBlock)
    (hm : m = xs.length + 1) (ho : w'.ownsRow w.heap.size 127 12 v' m (flat recS xs ++ recS (spanP p))) : SpI w is (i + 1) v' (xs ++ [spanP p]) w' := by
  subst hm
  refine ⟨?_, ?_, by have := h.le; simp; omega, fun x hx => ?_, fun x hx => ?_, h.bel.grown hg h.bel.size (own_ge h.own)⟩
  · rw [flat_snoc, List.length_append]; exact ho
  · have e : spansL ((is.take (i + 1)).map ivP) = spansL ((is.take i).map ivP) ++ [(ivP p).sp] := by
      rw [take_snoc' hp, List.map_append, List.map_singleton, spansL_snoc, hn]; rfl
    rw [e, List.map_append, h.eq]
    rfl
  · rcases List.mem_append.1 hx with hx | hx
    · exact h.ok x hx
    · simp at hx; subst hx; exact hok.span
  · rcases List.mem_append.1 hx with hx | hx
    · exact h.pr x hx
    · simp at hx; subst hx; exact ⟨p, List.mem_of_getElem? hp, rfl⟩
theorem ne_false1 {p : PI} (h : validV p.1.1.2 = false) : (ivP p).ne = false := by show (validV p.1.1.2 && _ && _) = false; rw [h]; rfl
theorem ne_false2 {p : PI} (h : validV p.1.2.2 = false) : (ivP p).ne = false := by show (validV p.1.1.2 && validV p.1.2.2 && _) = false; rw [h, Bool.and_false]; rfl
theorem ne_false3 {p : PI} (h : ¬ cmC (ivP p).sp.1 (ivP p).sp.2 < 0) : (ivP p).ne = false := by unfold Iv.ne; rw [decide_eq_false h, Bool.and_false]
theorem ne_true {p : PI} (h1 : validV p.1.1.2 = true) (h2 : validV p.1.2.2 = true) (h : cmC (ivP p).sp.1 (ivP p).sp.2 < 0) : (ivP p).ne = true := by
  show (validV p.1.1.2 && validV p.1.2.2 && _) = true; rw [h1, h2, decide_eq_true h]; rfl

/-- the two boxes of a round -/
structure SpB (w : World) (is : List PI) (i : Nat) (v : Value) (xs : List PS) (g : Nat) (p : PI) (wr : World) : Prop where
  i : SpI w is i v xs wr
  b5 : Blk wr g 67 (arrI p)
  b6 : Blk wr (g + 1) 127 (arrS (spanP p))
theorem SpB.step {w : World} {is : List PI} {i : Nat} {v : Value} {xs : List PS} {g : Nat} {p : PI} {wr w' : World} (h : SpB w is i v xs g p wr) (hb : Below wr.heap.size wr w') : SpB w is i v xs g p w' := ⟨h.i.step hb, h.b5.step hb, h.b6.step hb⟩

set_option maxRecDepth 100000 in
set_option maxHeartbeats 4000000 in
theorem spans_any (is : List PI) (A : Option Addr) (n c : Nat) (w : World) (hT : Tabs w) (h : SI w A n c is) (hn : n ≤ 1000000000) :
    Calls Tryz.prog 112 #[.slice A n c] w (SpOk is w) := by
  obtain ⟨j0, hj0, hy0, hy1, hy2⟩ := info_parts info_span
  have HT := Lib.hid hT
  have H := Lib.hid h
  have HL := Lib.hid h.sr.ln
  clear hT h
  go_enter Tryz.func112, Tryz.ntmps112
  go_wp2_with fail
  go_loopw [3, 9] (fun v3 v9 wr => ∃ (i : Nat) (xs : List PS), i ≤ n ∧ v9 = .int .i64 i ∧ SpI w is i v3 xs wr) (fun _ v9 _ => n - (intOf v9).toNat)
  case atStart => exact ⟨0, [], Nat.zero_le _, rfl, ⟨own_nil _ _ _ _, rfl, Nat.le_refl _, by simp, by simp, Below.refl _ _⟩⟩
  case round =>
    obtain ⟨i, xs, hi, rfl, I⟩ := hrel
    have J := Lib.hid I
    by_cases hlt : i < n
    · obtain ⟨p, hp⟩ : ∃ p, is[i]? = some p := ⟨_, List.getElem?_eq_getElem (by have := HL.out; omega)⟩
      obtain ⟨b, off, rfl, hbl, hat, hok⟩ := H.out.at hp
      have HP := Lib.hid hp
      have HOk := Lib.hid hok
      have hbr : b < wr.heap.size := by have := I.bel.size; omega
      have hle := I.le
      obtain ⟨⟨p0, p1, p2, p3, p4⟩, ⟨q0, q1, q2, q3, q4⟩, r0, r1⟩ := hat.keep (I.bel.block b hbl)
      clear hp hok hat I hbl
      go_upto_region 6 with fail
      have KB : SpB w is i u3 xs wr.heap.size p ((wr.alloc (Obj.cells (arrI p) 67)).alloc (Obj.cells (arrS (spanP p)) 127)) :=
        ⟨(J.out.step ((Below.refl wr.heap.size wr).alloc (Nat.le_refl _) _)).step ((Below.refl _ _).alloc (Nat.le_refl _) _), (Blk.new_at rfl).alloc _, Blk.new_at (by simp)⟩
      change (Code.region 6 _ _).wp _ _ _ ((wr.alloc (Obj.cells (arrI p) 67)).alloc (Obj.cells (arrS (spanP p)) 127))
      generalize (wr.alloc (Obj.cells (arrI p) 67)).alloc (Obj.cells (arrS (spanP p)) 127) = wa at *
      generalize wr.heap.size = ga at *
      have LB := Lib.hid KB
      clear p0 p1 p2 p3 p4 q0 q1 q2 q3 q4 r0 r1 J KB hbr
      obtain ⟨⟨p0, p1, p2, p3, p4⟩, ⟨q0, q1, q2, q3, q4⟩, r0, r1⟩ := IAt.of_blk LB.out.b5
      go_wp2_with fail
      refine (valid_any p.1.1.2 p.1.1.1 _ (HT.out.step LB.out.i.bel) (HOk.out.step LB.out.i.bel).1).mono ?_
      rintro e w1 ⟨rfl, hb1⟩
      have L1 := Lib.hid (LB.out.step hb1)
      clear hb1 p0 p1 p2 p3 p4 q0 q1 q2 q3 q4 r0 r1 LB
      cases h1 : validV p.1.1.2
      · have HI := Lib.hid (L1.out.i.skip HP.out (ne_false1 h1))
        clear h1
        go_wp2_with fail
        go_roundw
        case rel => exact ⟨i + 1, xs, by omega, by go_num, HI.out⟩
        case measure => simp [intOf]; omega
      have V1 := Lib.hid h1
      clear h1
      obtain ⟨⟨p0, p1, p2, p3, p4⟩, ⟨q0, q1, q2, q3, q4⟩, r0, r1⟩ := IAt.of_blk L1.out.b5
      go_wp2_with fail
      refine (valid_any p.1.2.2 p.1.2.1 _ (HT.out.step L1.out.i.bel) (HOk.out.step L1.out.i.bel).2).mono ?_
      rintro e w2 ⟨rfl, hb2⟩
      have L2 := Lib.hid (L1.out.step hb2)
      clear hb2 p0 p1 p2 p3 p4 q0 q1 q2 q3 q4 r0 r1 L1
      cases h2 : validV p.1.2.2
      · have HI := Lib.hid (L2.out.i.skip HP.out (ne_false2 h2))
        clear h2
        go_wp2_with fail
        go_roundw
        case rel => exact ⟨i + 1, xs, by omega, by go_num, HI.out⟩
        case measure => simp [intOf]; omega
      have V2 := Lib.hid h2
      clear h2
      obtain ⟨⟨⟨p0, p1, p2, p3, p4⟩, p5⟩, ⟨⟨q0, q1, q2, q3, q4⟩, q5⟩⟩ := SAt.of_blk L2.out.b6
      go_wp2_with fail
      refine (compare_any (spanP p).1 (spanP p).2 _ (HOk.out.step L2.out.i.bel).1 (HOk.out.step L2.out.i.bel).2).mono ?_
      rintro e w3 ⟨rfl, hb3⟩
      have L3 := Lib.hid (L2.out.step hb3)
      clear hb3 p0 p1 p2 p3 p4 p5 q0 q1 q2 q3 q4 q5 L2
      by_cases h3 : cmC (cutP (spanP p).1) (cutP (spanP p).2) < 0
      · have HN := Lib.hid (ne_true V1.out V2.out h3)
        obtain ⟨⟨⟨p0, p1, p2, p3, p4⟩, p5⟩, ⟨⟨q0, q1, q2, q3, q4⟩, q5⟩⟩ := SAt.of_blk L3.out.b6
        have hlo : w.heap.size ≤ w3.heap.size := L3.out.i.bel.size
        have LK := Lib.hid (L3.out.i.step ((Below.refl w3.heap.size w3).alloc (Nat.le_refl _) (Obj.cells (arrS (spanP p)) 127)))
        go_wp2_with (at_builtin; refine wpList_append_any _ rfl _ _ 123 rfl w.heap.size 127 j0 (aggS (((VC.zero, Val.zero), false), ((VC.zero, Val.zero), false))) 12 176 Tryz.underlying123 hj0 hy0 hy1 hy2 rfl (by decide) u3 xs.length (flat recS xs) rfl LK.out.own _ _ 1 _ (recS (spanP p)) rfl ⟨rfl, fun _ => ⟨_, rfl, Nat.lt_succ_self _, news_at _ _ _⟩⟩ (recS_one _) (by unfold maxLen; omega) (by omega) ?c5 ?_)
        case c5 => first | omega | (simp; omega)
        intro v' w4 hown hg _
        have HI := Lib.hid (LK.out.next HP.out HN.out HOk.out hg rfl hown)
        clear hown hg p0 p1 p2 p3 p4 p5 q0 q1 q2 q3 q4 q5 h3
        go_wp2_with fail
        go_roundw
        case rel => exact ⟨i + 1, xs ++ [spanP p], by omega, by go_num, HI.out⟩
        case measure => simp [intOf]; omega
      · have HI := Lib.hid (L3.out.i.skip HP.out (ne_false3 h3))
        go_wp2_with fail
        go_roundw
        case rel => exact ⟨i + 1, xs, by omega, by go_num, HI.out⟩
        case measure => simp [intOf]; omega
    · clear I
      go_wp2_with fail
      go_ret
      obtain ⟨A', c', e, hs⟩ := SS.of_own J.out.own rfl (by have := J.out.le; unfold reach; omega) (fun x hx => (J.out.ok x hx).step J.out.bel)
      exact ⟨A', _, c', xs, by rw [← e]; rfl, by rw [J.out.eq, List.take_of_length_le (by have := HL.out; omega)], J.out.pr, by have := J.out.le; have := HL.out; omega, hs, J.out.bel⟩

end Go.Proofs.YtfkapannahcjiaaGreatDoor



/- The contract of interval.merged. -/
namespace Go.Proofs.YtfkapannahcjiaaGreatDoor
open Go.RowKit

theorem ordSp : Ordered (fun p q : PS => cmC (spP p).1 (spP q).1) := ⟨fun _ _ => lin_cut.anti _ _, fun _ _ _ => lin_cut.tr _ _ _⟩

set_option maxHeartbeats 1000000 in
theorem cloneSp_any (xs : List PS) (A : Option Addr) (n c : Nat) (w : World) (h : SS w A n c xs) (hn : n ≤ 1000000000) :
    Calls Tryz.prog 144 #[.slice A n c] w fun e w' => ∃ v, e = .returned v ∧ w'.ownsRow w.heap.size 127 12 v n (flat recS xs) ∧ Below w.heap.size w w' := by
  obtain ⟨j0, hj0, hy0, hy1, hy2⟩ := info_parts info_span
  have HL := Lib.hid h.sr.ln
  cases A with
  | none =>
    have h0 : n = 0 := by
      rcases Nat.eq_zero_or_pos n with h0 | h0
      · exact h0
      · obtain ⟨b, off, e, _⟩ := h.sr.el h0; cases e
    subst h0
    have HX : Hid (xs = []) := List.eq_nil_of_length_eq_zero HL.out.symm
    clear h
    have kn := fun (w : World) => Lib.run_eql_slice_nil (P := Tryz.prog) w 123 127 none 0 c 0 0 Tryz.underlying123
    go_enter Tryz.func144, Tryz.ntmps144
    go_wp2_with fail
    go_ret
    exact ⟨_, rfl, by rw [HX.out]; exact own_nil _ _ _ _, Below.refl _ _⟩
  | some ad =>
    have hR : Reads w w.heap.size 12 (some ad) n (flat recS xs) := by
      refine ⟨by rw [flat_length recS_length, HL.out], fun hp => ?_⟩
      obtain ⟨b, off, e, hb, hel⟩ := h.sr.el hp
      cases e
      refine ⟨_, rfl, hb, fun j u hu => ?_⟩
      have hj := (List.getElem?_eq_some_iff.1 hu).1
      rw [flat_length recS_length] at hj
      obtain ⟨a, v, g1, g2, g3⟩ := flat_at' recS_length (by omega) xs j hj
      have := hel (j / 12) a g1 (j % 12) v g2
      rw [addr_add]
      rw [g3] at hu
      cases hu
      rw [show off + j = off + j / 12 * 12 + j % 12 by omega]
      exact this
    have HR := Lib.hid hR
    have hO : (w.alloc (Obj.cells #[] 127)).ownsRow w.heap.size 127 12 (.slice (some ⟨w.heap.size, 0, none⟩) 0 0) 0 [] :=
      ⟨rfl, .inr ⟨w.heap.size, 0, #[], rfl, Nat.le_refl _, Blk.new_at rfl, Nat.le_refl _, Nat.zero_le _, rfl, rfl⟩⟩
    have HO := Lib.hid hO
    have h1 : ∀ u ∈ flat recS xs, u.oneCell' = true := by
      intro u hu
      obtain ⟨p, _, hp⟩ := List.mem_flatMap.1 hu
      exact recS_one p u hp
    have H1 := Lib.hid h1
    clear h hR hO h1
    have kn := fun (w : World) => Lib.run_eql_slice_nil (P := Tryz.prog) w 123 127 (some ad) n c 0 0 Tryz.underlying123
    go_enter Tryz.func144, Tryz.ntmps144
    go_wp2_with (at_builtin; refine wpList_append_any _ rfl _ _ 123 rfl w.heap.size 127 j0 (aggS (((VC.zero, Val.zero), false), ((VC.zero, Val.zero), false))) 12 176 Tryz.underlying123 hj0 hy0 hy1 hy2 rfl (by decide) (.slice (some ⟨w.heap.size, 0, none⟩) 0 0) 0 [] rfl HO.out w.heap.size (some ad) n c (flat recS xs) rfl (HR.out.alloc (Nat.le_refl _) _) H1.out (by unfold maxLen; omega) (by omega) (by simp) ?_)
    intro v' w2 hown hg _
    go_wp2_with fail
    go_ret
    refine ⟨v', rfl, by simpa using hown, ?_⟩
    exact ((Below.refl w.heap.size w).alloc (Nat.le_refl _) _).grown hg (by simp) (fun k hk => by simp [Value.ownBlock] at hk; omega)

theorem isortSp_nil (w : World) : Calls Tryz.prog 207 #[.slice none 0 0, .int .i64 0, .int .i64 0, .func (.func 146) #[] #[]] w fun e w' => e = .returned (.tuple #[]) ∧ w = w' := by
  go_enter Tryz.func207, Tryz.ntmps207
  go_wp2_with fail
  go_loopw [8] (fun v8 wr => v8 = .int .i64 1 ∧ wr = w) (fun _ _ => 0)
  case atStart => exact ⟨rfl, rfl⟩
  case round =>
    obtain ⟨rfl, rfl⟩ := hrel
    go_wp2_with fail
    go_end0
    exact ⟨rfl, rfl⟩
theorem stableSp_nil (w : World) : Calls Tryz.prog 179 #[.slice none 0 0, .int .i64 0, .func (.func 146) #[] #[]] w fun e w' => e = .returned (.tuple #[]) ∧ w = w' := by
  go_enter Tryz.func179, Tryz.ntmps179
  go_wp2_with fail
  go_loop [7, 8] (fun v7 v8 => v7 = .int .i64 0 ∧ v8 = .int .i64 20) (fun _ _ => 0)
  case atStart => exact ⟨rfl, rfl⟩
  case round =>
    obtain ⟨rfl, rfl⟩ := hrel
    go_wp2_with fail
    refine (isortSp_nil _).mono ?_
    rintro e w1 ⟨rfl, rfl⟩
    go_wp2_with fail
    go_loop [6] (fun v6 => v6 = .int .i64 20) (fun _ => 0)
    case atStart => rfl
    case round =>
      subst hrel
      go_wp2_with fail
      go_end0
      exact ⟨rfl, rfl⟩
theorem sortSp_nil (w : World) : Calls Tryz.prog 145 #[.slice none 0 0, .func (.func 146) #[] #[]] w fun e w' => e = .returned (.tuple #[]) ∧ w = w' := by
  go_enter Tryz.func145, Tryz.ntmps145
  go_wp2_with fail
  refine (stableSp_nil _).mono ?_
  rintro e w1 ⟨rfl, rfl⟩
  go_wp2_with fail
  go_end0
  exact ⟨rfl, rfl⟩
theorem sortSp_any (L : List (PS × Nat)) (g n c : Nat) (w : World) (hr : SRowSp w g L) (hn : n = L.length) (hz : n * 176 ≤ reach) (ht : Tagged L) (hc : CmpOkSp g w L) :
    Calls Tryz.prog 145 #[.slice (some ⟨g, 0, none⟩) n c, .func (.func 146) #[] #[]] w (IsDoneSp g w [] L []) := by
  have HR := Lib.hid hr
  have HN := Lib.hid hn
  have HT := Lib.hid ht
  have HC := Lib.hid hc
  have HZ := Lib.hid hz
  clear hr hn ht hc hz
  go_enter Tryz.func145, Tryz.ntmps145
  go_wp2_with fail
  refine (stableSp_any ordSp L g n c _ HR.out HN.out HZ.out HT.out HC.out).mono ?_
  rintro e w1 hd
  have HD := Lib.hid hd
  obtain ⟨rfl, _⟩ := hd
  go_wp2_with fail
  go_end0
  exact HD.out

/-- the list is sorted by its beginnings -/
def SortedBy (xs ys : List PS) : Prop := ys.Perm xs ∧ ys.Pairwise fun p q => cmC (spP p).1 (spP q).1 ≤ 0
theorem SortedBy.of {xs : List PS} {S : List (PS × Nat)} (h : Sorted (fun p q : PS => cmC (spP p).1 (spP q).1) (tagFrom 0 xs) S) : SortedBy xs (S.map Prod.fst) := by
  refine ⟨?_, ?_⟩
  · have := h.perm.map Prod.fst
    rwa [tagFrom_map] at this
  · rw [List.pairwise_map]
    refine h.ord.imp fun {a b} hab => ?_
    have hab' : cmC (spP a.1).1 (spP b.1).1 < 0 ∨ cmC (spP a.1).1 (spP b.1).1 = 0 ∧ a.2 < b.2 := hab
    omega
theorem SortedBy.merge {xs ys : List PS} (h : SortedBy xs ys) (hne : ∀ x ∈ xs, cmC (spP x).1 (spP x).2 < 0 ∧ VC1 (spP x).1 ∧ VC1 (spP x).2) :
    IsNF (fun a => inS cmC a (xs.map spP)) (mergeS cmC (ys.map spP)) ∧ (mergeS cmC (ys.map spP)).length ≤ xs.length := by
  have h1 : ∀ s ∈ ys.map spP, cmC s.1 s.2 < 0 ∧ VC1 s.1 ∧ VC1 s.2 := by
    intro s hs
    obtain ⟨x, hx, rfl⟩ := List.mem_map.1 hs
    exact hne x (h.1.subset hx)
  have h2 : (ys.map spP).Pairwise fun s t => cmC s.1 t.1 ≤ 0 := by rw [List.pairwise_map]; exact h.2
  have hm := mergeS_ok lin_cut h1 h2
  refine ⟨⟨hm.nf, fun a => by rw [hm.mem]; exact inS_perm (h.1.map spP)⟩, ?_⟩
  have := mergeS_len (cm := cmC) (ys.map spP)
  have hl := h.1.length_eq
  simp only [List.length_map] at this
  omega
/-- a row of the call's own as a row to be sorted -/
theorem SRowSp.of_own {w : World} {base g n cap : Nat} {xs : List PS} (h : w.ownsRow base 127 12 (.slice (some ⟨g, 0, none⟩) n cap) n (flat recS xs)) : SRowSp w g (tagFrom 0 xs) := by
  rcases h.2 with ⟨h', _⟩ | ⟨g', cap', cur, h', _, hg, _, _, _, htake⟩
  · simp at h'
  · simp only [Value.slice.injEq, Option.some.injEq, Addr.mk.injEq, and_true, true_and] at h'
    obtain ⟨rfl, rfl⟩ := h'
    have e : flat recTSp (tagFrom 0 xs) = flat recS xs := by
      have : ∀ k, flat recTSp (tagFrom k xs) = flat recS xs := by
        intro k
        clear hg htake h
        induction xs generalizing k with
        | nil => rfl
        | cons x r ih =>
          have e1 : flat recTSp (tagFrom k (x :: r)) = recS x ++ flat recTSp (tagFrom (k + 1) r) := rfl
          rw [e1, ih]; rfl
      exact this 0
    refine ⟨cur.toList.drop (n * 12), ?_⟩
    show w.heap[g]? = _
    rw [hg, e, ← htake, List.take_append_drop]
theorem SRowSp.reads {w : World} {g n cap : Nat} {L : List (PS × Nat)} (h : SRowSp w g L) (hn : n = L.length) (hc : n ≤ cap) : SR 12 recS w (some ⟨g, 0, none⟩) n cap (L.map Prod.fst) := by
  refine ⟨by rw [List.length_map, hn], hc, fun _ => ⟨g, 0, rfl, h.lt, fun i a hi j v hj => ?_⟩⟩
  rw [List.getElem?_map] at hi
  obtain ⟨p, hp, rfl⟩ := Option.map_eq_some_iff.1 hi
  rw [Nat.zero_add]
  exact h.cell hp j v hj

end Go.Proofs.YtfkapannahcjiaaGreatDoor



/- The walk of interval.merged. -/
namespace Go.Proofs.YtfkapannahcjiaaGreatDoor
open Go.RowKit

/-- the loop of merged: S the sorted spans, w2 the world in which they are sorted -/
structure MgI (w w2 : World) (S : List PS) (i : Nat) (v : Value) (cs : List PS) (wr : World) : Prop where
  own : wr.ownsRow w2.heap.size 127 12 v cs.length (flat recS cs)
  eq : cs.map spP = mergeS cmC ((S.take i).map spP)
  le : cs.length ≤ i
  ok : ∀ x ∈ cs, okS w x
  pr : ∀ x ∈ cs, (∃ y ∈ S, x.1 = y.1) ∧ ∃ y ∈ S, x.2 = y.2
  bel : Below w2.heap.size w2 wr
section
variable {w w2 : World} {S : List PS} {i : Nat} {v : Value} {cs : List PS} {wr w' : World}
theorem MgI.step (h : MgI w w2 S i v cs wr) (hb : Below wr.heap.size wr w') : MgI w w2 S i v cs w' := ⟨own_step h.own hb, h.eq, h.le, h.ok, h.pr, h.bel.step' hb⟩
theorem stepS_app {α : Type} {cm : α → α → Int} {c : List (α × α)} {s : α × α} (h : c = [] ∨ ∃ d l, c = d ++ [l] ∧ cm l.2 s.1 < 0) : stepS cm c s = c ++ [s] := by
  rcases h with rfl | ⟨d, l, rfl, h⟩
  · rfl
  · unfold stepS
    have e0 : (d ++ [l]).getLast? = some l := by simp
    rw [e0]; simp only; rw [if_pos h]
theorem stepS_up {α : Type} {cm : α → α → Int} {d : List (α × α)} {l s : α × α} (h1 : ¬ cm l.2 s.1 < 0) (h2 : cm l.2 s.2 < 0) : stepS cm (d ++ [l]) s = d ++ [(l.1, s.2)] := by
  unfold stepS
  have e0 : (d ++ [l]).getLast? = some l := by simp
  rw [e0]; simp only; rw [if_neg h1, if_pos h2, List.dropLast_concat]
theorem stepS_no {α : Type} {cm : α → α → Int} {d : List (α × α)} {l s : α × α} (h1 : ¬ cm l.2 s.1 < 0) (h2 : ¬ cm l.2 s.2 < 0) : stepS cm (d ++ [l]) s = d ++ [l] := by
  unfold stepS
  have e0 : (d ++ [l]).getLast? = some l := by simp
  rw [e0]; simp only; rw [if_neg h1, if_neg h2]
theorem MgI.same (h : MgI w w2 S i v cs wr) {p : PS} (hp : S[i]? = some p) (hs : stepS cmC (cs.map spP) (spP p) = cs.map spP) : MgI w w2 S (i + 1) v cs wr := by
  refine ⟨h.own, ?_, by have := h.le; omega, h.ok, h.pr, h.bel⟩
  rw [take_snoc' hp, List.map_append, List.map_singleton, mergeS_snoc, ← h.eq, hs]
theorem MgI.add (h : MgI w w2 S i v cs wr) {p : PS} (hp : S[i]? = some p) (hs : stepS cmC (cs.map spP) (spP p) = cs.map spP ++ [spP p]) (hok : okS w p) {v' : Value} {m : Nat} (hg : wr.grownBy w' v.ownBlock) (hm : m = cs.length + 1)
    (ho : w'.ownsRow w2.heap.size 127 12 v' m (flat recS cs ++ recS p)) : MgI w w2 S (i + 1) v' (cs ++ [p]) w' := by
  subst hm
  refine ⟨?_, ?_, by have := h.le; simp; omega, fun x hx => ?_, fun x hx => ?_, h.bel.grown hg h.bel.size (own_ge h.own)⟩
  · rw [flat_snoc, List.length_append]; exact ho
  · rw [take_snoc' hp, List.map_append (l₁ := S.take i), List.map_singleton, mergeS_snoc, ← h.eq, hs, List.map_append]
    rfl
  · rcases List.mem_append.1 hx with hx | hx
    · exact h.ok x hx
    · simp at hx; subst hx; exact hok
  · rcases List.mem_append.1 hx with hx | hx
    · exact h.pr x hx
    · simp at hx; subst hx; exact ⟨⟨x, List.mem_of_getElem? hp, rfl⟩, x, List.mem_of_getElem? hp, rfl⟩
end
/-- six stores of a cut -/
abbrev setC (w : World) (g off : Nat) (q : PC) : World := (setV w g off q.1.1).setCell ⟨g, off + 5, none⟩ (.bool q.2)
theorem own_setC {w : World} {base g n cap : Nat} {t : TypeId} {xs : List Value} (h : w.ownsRow base t 12 (.slice (some ⟨g, 0, none⟩) n cap) n xs) (off : Nat) (q : PC) :
    (setC w g off q).ownsRow base t 12 (.slice (some ⟨g, 0, none⟩) n cap) n (setList xs off (recK q)) := by
  have h1 := (h.stored off (.int .i64 q.1.1.k)).1
  have h2 := (h1.stored (off + 1) (.int .i64 q.1.1.n)).1
  have h3 := (h2.stored (off + 2) (.string q.1.1.t)).1
  have h4 := (h3.stored (off + 3) (.slice q.1.1.LA q.1.1.ln q.1.1.lc)).1
  have h5 := (h4.stored (off + 4) (.slice q.1.1.DA q.1.1.dn q.1.1.dc)).1
  exact (h5.stored (off + 5) (.bool q.2)).1
theorem flat_to (d : List PS) (l : PS) (q : PC) : setList (flat recS (d ++ [l])) (d.length * 12 + 6) (recK q) = flat recS (d ++ [(l.1, q)]) := by
  have e1 : flat recS (d ++ [l]) = (flat recS d ++ recK l.1) ++ recK l.2 := by rw [flat_snoc]; simp [recS]
  have hl : (flat recS d ++ recK l.1).length = d.length * 12 + 6 := by rw [List.length_append, flat_length recS_length, recK_length]
  rw [setList_eq _ _ _ (by rw [e1, List.length_append, hl, recK_length, recK_length]; omega), e1, ← hl, List.take_left, recK_length, List.drop_of_length_le (by rw [List.length_append, recK_length]; omega), List.append_nil, flat_snoc]
  simp [recS]
theorem below_setC {B : Nat} {a w : World} (h : Below B a w) {b : Nat} (hB : B ≤ b) (off : Nat) (q : PC) : Below B a (setC w b off q) := (below_setV h hB off q.1.1).setCell hB _
theorem MgI.put {w w2 : World} {S : List PS} {i g n cap : Nat} {d : List PS} {l p : PS} {wr : World} (h : MgI w w2 S i (.slice (some ⟨g, 0, none⟩) n cap) (d ++ [l]) wr) (hp : S[i]? = some p)
    (hs : stepS cmC ((d ++ [l]).map spP) (spP p) = (d ++ [(l.1, p.2)]).map spP) (hok : okS w p) (hn : n = d.length + 1) : MgI w w2 S (i + 1) (.slice (some ⟨g, 0, none⟩) n cap) (d ++ [(l.1, p.2)]) (setC wr g (d.length * 12 + 6) p.2) := by
  have ho := h.own
  have hl : (d ++ [l]).length = n := by rw [hn]; simp
  rw [hl] at ho
  refine ⟨?_, ?_, by have := h.le; simp at this ⊢; omega, fun x hx => ?_, fun x hx => ?_, below_setC h.bel (own_ge h.own g rfl) _ _⟩
  · rw [← flat_to d l p.2, show (d ++ [(l.1, p.2)]).length = n by rw [hn]; simp]
    exact own_setC ho _ _
  · rw [take_snoc' hp, List.map_append (l₁ := S.take i), List.map_singleton, mergeS_snoc, ← h.eq, hs]
  · rcases List.mem_append.1 hx with hx | hx
    · exact h.ok x (by simp [hx])
    · simp at hx; subst hx; exact ⟨(h.ok l (by simp)).1, hok.2⟩
  · rcases List.mem_append.1 hx with hx | hx
    · exact h.pr x (by simp [hx])
    · simp at hx; subst hx; exact ⟨(h.pr l (by simp)).1, p, List.mem_of_getElem? hp, rfl⟩
/-- the box of a round -/
structure MgB (w w2 : World) (S : List PS) (i : Nat) (v : Value) (cs : List PS) (g : Nat) (p : PS) (wr : World) : Prop where
  i : MgI w w2 S i v cs wr
  b5 : Blk wr g 127 (arrS p)
theorem MgB.step {w w2 : World} {S : List PS} {i : Nat} {v : Value} {cs : List PS} {g : Nat} {p : PS} {wr w' : World} (h : MgB w w2 S i v cs g p wr) (hb : Below wr.heap.size wr w') : MgB w w2 S i v cs g p w' := ⟨h.i.step hb, h.b5.step hb⟩

/-- what merged hands back -/
def MgOk (xs : List PS) (w : World) (e : Ending) (w' : World) : Prop :=
  ∃ (A : Option Addr) (m c : Nat) (ys : List PS), e = .returned (.slice A m c) ∧ (∃ S, SortedBy xs S ∧ ys.map spP = mergeS cmC (S.map spP)) ∧ (∀ y ∈ ys, (∃ x ∈ xs, y.1 = x.1) ∧ ∃ x ∈ xs, y.2 = x.2) ∧ (∀ b off, A = some ⟨b, off, none⟩ → w.heap.size ≤ b) ∧ SS w' A m c ys ∧ m ≤ xs.length ∧ Below w.heap.size w w'

set_option maxRecDepth 100000 in
set_option maxHeartbeats 2000000 in
theorem merged_any (xs : List PS) (A : Option Addr) (n c : Nat) (w : World) (h : SS w A n c xs) (hn : n ≤ 1000000000) :
    Calls Tryz.prog 111 #[.slice A n c] w (MgOk xs w) := by
  obtain ⟨j0, hj0, hy0, hy1, hy2⟩ := info_parts info_span
  have H := Lib.hid h
  have HL := Lib.hid h.sr.ln
  clear h
  go_enter Tryz.func111, Tryz.ntmps111
  go_wp2_with fail
  refine (cloneSp_any xs A n c _ H.out hn).mono ?_
  rintro e w1 ⟨v1, rfl, hown, hb1⟩
  have HB1 := Lib.hid hb1
  obtain ⟨A1, c1, rfl, hc1⟩ := own_slice hown
  have HO := Lib.hid hown
  clear hown hb1
  have sorted : Hid (Calls Tryz.prog 145 #[.slice A1 n c1, .func (.func 146) #[] #[]] w1 fun e w' => e = .returned (.tuple #[]) ∧ ∃ S, SortedBy xs S ∧ SR 12 recS w' A1 n c1 S ∧ Below w.heap.size w w') := by
    rcases HO.out.2 with ⟨h', h0⟩ | ⟨g, cap, cur, h', hg, _⟩
    · cases h'
      have hx : xs = [] := List.eq_nil_of_length_eq_zero (by have := HL.out; omega)
      refine Lib.hid ((sortSp_nil w1).mono ?_)
      rintro e w' ⟨rfl, rfl⟩
      exact ⟨rfl, [], by rw [hx]; exact ⟨.nil, .nil⟩, SR.nil, HB1.out⟩
    · cases h'
      refine Lib.hid ((sortSp_any (tagFrom 0 xs) g n c1 w1 (SRowSp.of_own HO.out) (by rw [tagFrom_length]; exact HL.out) (by unfold reach; omega) (tagFrom_tagged _ _) ?_).mono ?_)
      · intro x y hx hy wr hbt
        have okx : ∀ z ∈ tagFrom 0 xs, okS wr z.1 := by
          intro z hz
          have hz' : z.1 ∈ xs := by
            have := List.mem_map_of_mem (f := Prod.fst) hz
            rwa [tagFrom_map] at this
          exact (H.out.ok z.1 hz').step (HB1.out.trans (hbt.below HB1.out.size hg))
        exact mcmp_any x.1 y.1 wr (okx x hx) (okx y hy)
      · rintro e w' ⟨rfl, S, hS, hI⟩
        simp only [List.nil_append, List.append_nil] at hI
        have hl : n = S.length := by rw [hS.perm.length_eq, tagFrom_length]; exact HL.out
        exact ⟨rfl, S.map Prod.fst, SortedBy.of hS, hI.row.reads hl hc1, HB1.out.trans (hI.but.below HB1.out.size hg)⟩
  go_wp2_with fail
  refine sorted.out.mono ?_
  rintro e w2 ⟨rfl, S, hS, hSR, hb2⟩
  clear sorted HO HB1 hc1
  have HS := Lib.hid hS
  have HSR := Lib.hid hSR
  have HB2 := Lib.hid hb2
  have HSL : Hid (n = S.length) := hSR.ln
  have hokS : ∀ x ∈ S, okS w x := fun x hx => H.out.ok x (hS.1.subset hx)
  have HOk := Lib.hid hokS
  clear hS hSR hb2 hokS
  go_wp2_with fail
  go_loopw [3, 13] (fun v3 v13 wr => ∃ (i : Nat) (cs : List PS), i ≤ n ∧ v13 = .int .i64 i ∧ MgI w w2 S i v3 cs wr) (fun _ v13 _ => n - (intOf v13).toNat)
  case atStart => exact ⟨0, [], Nat.zero_le _, rfl, ⟨own_nil _ _ _ _, rfl, Nat.le_refl _, by simp, by simp, Below.refl _ _⟩⟩
  case round =>
    obtain ⟨i, cs, hi, rfl, I⟩ := hrel
    have J := Lib.hid I
    by_cases hlt : i < n
    · obtain ⟨p, hp⟩ : ∃ p, S[i]? = some p := ⟨_, List.getElem?_eq_getElem (by have := HSL.out; omega)⟩
      obtain ⟨b, off, rfl, hbl, hel⟩ := HSR.out.el (by omega)
      have hat : SAt w2 b (off + i * 12) p := sat_of fun j v hj => hel i p hp j v hj
      have HP := Lib.hid hp
      have HPk := Lib.hid (HOk.out p (List.mem_of_getElem? hp))
      have hbr : b < wr.heap.size := by have := I.bel.size; omega
      have hle := I.le
      obtain ⟨⟨⟨p0, p1, p2, p3, p4⟩, p5⟩, ⟨⟨q0, q1, q2, q3, q4⟩, q5⟩⟩ := hat.keep (I.bel.block b hbl)
      obtain ⟨m, hm⟩ : ∃ m, m = cs.length := ⟨_, rfl⟩
      obtain ⟨A3, c3, hv3, hc3⟩ := own_slice I.own
      rw [← hm] at hv3 hc3 hle
      subst hv3
      have HM := Lib.hid hm
      clear hp hat I hbl hel hm
      go_upto_region 8 with fail
      have KB : MgB w w2 S i (.slice A3 m c3) cs wr.heap.size p (wr.alloc (Obj.cells (arrS p) 127)) := ⟨J.out.step ((Below.refl wr.heap.size wr).alloc (Nat.le_refl _) _), Blk.new_at rfl⟩
      change (Code.region 8 _ _).wp _ _ _ (wr.alloc (Obj.cells (arrS p) 127))
      generalize wr.alloc (Obj.cells (arrS p) 127) = wa at *
      generalize wr.heap.size = ga at *
      have LB := Lib.hid KB
      clear p0 p1 p2 p3 p4 p5 q0 q1 q2 q3 q4 q5 J KB hbr
      rcases List.eq_nil_or_concat cs with hcs | ⟨d, l, hcs⟩
      · have hm1 : decide ((m : Int) - 1 < 0) = true := decide_eq_true (by have := HM.out; rw [hcs] at this; simp at this; omega)
        have HSt : Hid (stepS cmC (cs.map spP) (spP p) = cs.map spP ++ [spP p]) := Lib.hid (stepS_app (.inl (by rw [hcs]; rfl)))
        clear hcs
        refine wp_region_bw (by kernel_rfl) (by kernel_rfl) ?_
        repeat (go_big_quiet_step (fail))
        refine wpQuiet_nil ?_
        rintro _ ⟨kw, rfl⟩
        have L1 := Lib.hid (LB.out.step kw.below)
        clear hm1 LB
        generalize kw.val = w3 at *
        obtain ⟨⟨⟨p0, p1, p2, p3, p4⟩, p5⟩, ⟨⟨q0, q1, q2, q3, q4⟩, q5⟩⟩ := SAt.of_blk L1.out.b5
        have hlo : w2.heap.size ≤ w3.heap.size := L1.out.i.bel.size
        have LK := Lib.hid (L1.out.i.step ((Below.refl w3.heap.size w3).alloc (Nat.le_refl _) (Obj.cells (arrS p) 127)))
        have hown : (w3.alloc (Obj.cells (arrS p) 127)).ownsRow w2.heap.size 127 12 (.slice A3 m c3) m (flat recS cs) := by have := LK.out.own; rw [← HM.out] at this; exact this
        have HOw := Lib.hid hown
        clear hown
        go_wp2_with (at_builtin; refine wpList_append_any _ rfl _ _ 123 rfl w2.heap.size 127 j0 (aggS (((VC.zero, Val.zero), false), ((VC.zero, Val.zero), false))) 12 176 Tryz.underlying123 hj0 hy0 hy1 hy2 rfl (by decide) (.slice A3 m c3) m (flat recS cs) rfl HOw.out _ _ 1 _ (recS p) rfl ⟨rfl, fun _ => ⟨_, rfl, Nat.lt_succ_self _, news_at _ _ _⟩⟩ (recS_one _) (by unfold maxLen; omega) (by omega) (by simp; omega) ?_)
        intro v' w4 hown hg _
        have HI := Lib.hid (LK.out.add HP.out HSt.out HPk.out hg (by rw [HM.out]) hown)
        clear hown hg p0 p1 p2 p3 p4 p5 q0 q1 q2 q3 q4 q5
        go_wp2_with fail
        go_roundw
        case rel => exact ⟨i + 1, cs ++ [p], by omega, by go_num, HI.out⟩
        case measure => simp [intOf]; omega
      · rw [List.concat_eq_append] at hcs
        have hml : m = d.length + 1 := by rw [HM.out, hcs]; simp
        obtain ⟨g, hA3⟩ : ∃ g, A3 = some ⟨g, 0, none⟩ := by
          obtain ⟨g, cap, hv, _⟩ := LB.out.i.own.form (by rw [hcs]; simp)
          injection hv with hv
          exact ⟨g, hv⟩
        subst hA3
        have hrow : CAt wa g ((m - 1) * 12 + 6) l.2 := by
          have ho := LB.out.i.own
          rw [← HM.out] at ho
          refine cat_of fun j v hj => ?_
          have hlt := (List.getElem?_eq_some_iff.1 hj).1
          rw [recK_length] at hlt
          rw [Nat.add_assoc, ho.cellAt _ (by omega)]
          refine flat_get recS_length (xs := cs) (a := l) (by rw [hcs, show m - 1 = d.length by omega]; simp) ?_
          show (recK l.1 ++ recK l.2)[6 + j]? = some v
          rw [List.getElem?_append_right (by rw [recK_length]; omega), recK_length, show 6 + j - 6 = j by omega]
          exact hj
        have hokl : okS w l := LB.out.i.ok l (by rw [hcs]; simp)
        have HOl := Lib.hid hokl
        have HML := Lib.hid hml
        have HCS := Lib.hid hcs
        have hwb : Hid (Below w.heap.size w wa) := Lib.hid (HB2.out.trans (LB.out.i.bel.mono HB2.out.size))
        obtain ⟨⟨r0, r1, r2, r3, r4⟩, r5⟩ := hrow
        obtain ⟨⟨⟨p0, p1, p2, p3, p4⟩, p5⟩, ⟨⟨q0, q1, q2, q3, q4⟩, q5⟩⟩ := SAt.of_blk LB.out.b5
        have R0 : ∀ k : BW wa, k.val.cell? ⟨g, (m - 1) * 12 + 6, none⟩ = some (.int .i64 l.2.1.1.k) := fun k => k.cell r0
        have R1 : ∀ k : BW wa, k.val.cell? ⟨g, (m - 1) * 12 + 6 + 1, none⟩ = some (.int .i64 l.2.1.1.n) := fun k => k.cell r1
        have R2 : ∀ k : BW wa, k.val.cell? ⟨g, (m - 1) * 12 + 6 + 2, none⟩ = some (.string l.2.1.1.t) := fun k => k.cell r2
        have R3 : ∀ k : BW wa, k.val.cell? ⟨g, (m - 1) * 12 + 6 + 3, none⟩ = some (.slice l.2.1.1.LA l.2.1.1.ln l.2.1.1.lc) := fun k => k.cell r3
        have R4 : ∀ k : BW wa, k.val.cell? ⟨g, (m - 1) * 12 + 6 + 4, none⟩ = some (.slice l.2.1.1.DA l.2.1.1.dn l.2.1.1.dc) := fun k => k.cell r4
        have R5 : ∀ k : BW wa, k.val.cell? ⟨g, (m - 1) * 12 + 6 + 5, none⟩ = some (.bool l.2.2) := fun k => k.cell r5
        have P0 : ∀ k : BW wa, k.val.cell? ⟨ga, 0, none⟩ = some (.int .i64 p.1.1.1.k) := fun k => k.cell p0
        have P1 : ∀ k : BW wa, k.val.cell? ⟨ga, 1, none⟩ = some (.int .i64 p.1.1.1.n) := fun k => k.cell p1
        have P2 : ∀ k : BW wa, k.val.cell? ⟨ga, 2, none⟩ = some (.string p.1.1.1.t) := fun k => k.cell p2
        have P3 : ∀ k : BW wa, k.val.cell? ⟨ga, 3, none⟩ = some (.slice p.1.1.1.LA p.1.1.1.ln p.1.1.1.lc) := fun k => k.cell p3
        have P4 : ∀ k : BW wa, k.val.cell? ⟨ga, 4, none⟩ = some (.slice p.1.1.1.DA p.1.1.1.dn p.1.1.1.dc) := fun k => k.cell p4
        have P5 : ∀ k : BW wa, k.val.cell? ⟨ga, 5, none⟩ = some (.bool p.1.2) := fun k => k.cell p5
        have i0 : (0 : Int) ≤ (m : Int) - 1 := by omega
        have i1 : (m : Int) - 1 < (m : Int) := by omega
        have W2 : ((m : Int) - 1).toNat = m - 1 := by omega
        have hm1 : decide ((m : Int) - 1 < 0) = false := decide_eq_false (by omega)
        have K1 : Hid (∀ k : BW wa, Calls Tryz.prog 147 #[aggK l.2, aggK p.1] k.val fun e w'' => e = .returned (.int .i64 (cmC (cutP l.2) (cutP p.1))) ∧ ∃ k : BW wa, w'' = k.val) := fun k =>
          Calls.bw (compare_any l.2 p.1 k.val ((HOl.out.step hwb.out).2.step k.below) ((HPk.out.step hwb.out).1.step k.below))
        clear hcs hokl hml r0 r1 r2 r3 r4 r5 p0 p1 p2 p3 p4 p5 q0 q1 q2 q3 q4 q5
        refine wp_region_bw (by kernel_rfl) (by kernel_rfl) ?_
        repeat (go_big_quiet_step (with_reducible exact K1.out _))
        refine wpQuiet_nil ?_
        rintro _ ⟨kw, rfl⟩
        have L1 := Lib.hid (LB.out.step kw.below)
        clear R0 R1 R2 R3 R4 R5 P0 P1 P2 P3 P4 P5 K1 i0 i1 W2 hm1 LB hwb
        generalize kw.val = w3 at *
        by_cases hc : cmC (cutP l.2) (cutP p.1) < 0
        · have HSt : Hid (stepS cmC (cs.map spP) (spP p) = cs.map spP ++ [spP p]) := Lib.hid (stepS_app (.inr ⟨d.map spP, spP l, by rw [HCS.out, List.map_append]; rfl, hc⟩))
          obtain ⟨⟨⟨p0, p1, p2, p3, p4⟩, p5⟩, ⟨⟨q0, q1, q2, q3, q4⟩, q5⟩⟩ := SAt.of_blk L1.out.b5
          have hlo : w2.heap.size ≤ w3.heap.size := L1.out.i.bel.size
          have LK := Lib.hid (L1.out.i.step ((Below.refl w3.heap.size w3).alloc (Nat.le_refl _) (Obj.cells (arrS p) 127)))
          have hown : (w3.alloc (Obj.cells (arrS p) 127)).ownsRow w2.heap.size 127 12 (.slice (some ⟨g, 0, none⟩) m c3) m (flat recS cs) := by have := LK.out.own; rw [← HM.out] at this; exact this
          have HOw := Lib.hid hown
          clear hown
          go_wp2_with (at_builtin; refine wpList_append_any _ rfl _ _ 123 rfl w2.heap.size 127 j0 (aggS (((VC.zero, Val.zero), false), ((VC.zero, Val.zero), false))) 12 176 Tryz.underlying123 hj0 hy0 hy1 hy2 rfl (by decide) (.slice (some ⟨g, 0, none⟩) m c3) m (flat recS cs) rfl HOw.out _ _ 1 _ (recS p) rfl ⟨rfl, fun _ => ⟨_, rfl, Nat.lt_succ_self _, news_at _ _ _⟩⟩ (recS_one _) (by unfold maxLen; omega) (by omega) (by simp; omega) ?_)
          intro v' w4 hown hg _
          have HI := Lib.hid (LK.out.add HP.out HSt.out HPk.out hg (by rw [HM.out]) hown)
          clear hown hg p0 p1 p2 p3 p4 p5 q0 q1 q2 q3 q4 q5
          go_wp2_with fail
          go_roundw
          case rel => exact ⟨i + 1, cs ++ [p], by omega, by go_num, HI.out⟩
          case measure => simp [intOf]; omega
        · go_upto_region 10 with fail
          have hrow : CAt w3 g ((m - 1) * 12 + 6) l.2 := by
            have ho := L1.out.i.own
            rw [← HM.out] at ho
            have hml := HML.out
            refine cat_of fun j v hj => ?_
            have hlt := (List.getElem?_eq_some_iff.1 hj).1
            rw [recK_length] at hlt
            rw [Nat.add_assoc, ho.cellAt _ (by omega)]
            refine flat_get recS_length (xs := cs) (a := l) (by rw [HCS.out, show m - 1 = d.length by omega]; simp) ?_
            show (recK l.1 ++ recK l.2)[6 + j]? = some v
            rw [List.getElem?_append_right (by rw [recK_length]; omega), recK_length, show 6 + j - 6 = j by omega]
            exact hj
          have hwb : Hid (Below w.heap.size w w3) := Lib.hid (HB2.out.trans (L1.out.i.bel.mono HB2.out.size))
          obtain ⟨⟨r0, r1, r2, r3, r4⟩, r5⟩ := hrow
          obtain ⟨_, ⟨⟨q0, q1, q2, q3, q4⟩, q5⟩⟩ := SAt.of_blk L1.out.b5
          have R0 : ∀ k : BW w3, k.val.cell? ⟨g, (m - 1) * 12 + 6, none⟩ = some (.int .i64 l.2.1.1.k) := fun k => k.cell r0
          have R1 : ∀ k : BW w3, k.val.cell? ⟨g, (m - 1) * 12 + 6 + 1, none⟩ = some (.int .i64 l.2.1.1.n) := fun k => k.cell r1
          have R2 : ∀ k : BW w3, k.val.cell? ⟨g, (m - 1) * 12 + 6 + 2, none⟩ = some (.string l.2.1.1.t) := fun k => k.cell r2
          have R3 : ∀ k : BW w3, k.val.cell? ⟨g, (m - 1) * 12 + 6 + 3, none⟩ = some (.slice l.2.1.1.LA l.2.1.1.ln l.2.1.1.lc) := fun k => k.cell r3
          have R4 : ∀ k : BW w3, k.val.cell? ⟨g, (m - 1) * 12 + 6 + 4, none⟩ = some (.slice l.2.1.1.DA l.2.1.1.dn l.2.1.1.dc) := fun k => k.cell r4
          have R5 : ∀ k : BW w3, k.val.cell? ⟨g, (m - 1) * 12 + 6 + 5, none⟩ = some (.bool l.2.2) := fun k => k.cell r5
          have Q0 : ∀ k : BW w3, k.val.cell? ⟨ga, 6, none⟩ = some (.int .i64 p.2.1.1.k) := fun k => k.cell q0
          have Q1 : ∀ k : BW w3, k.val.cell? ⟨ga, 7, none⟩ = some (.int .i64 p.2.1.1.n) := fun k => k.cell q1
          have Q2 : ∀ k : BW w3, k.val.cell? ⟨ga, 8, none⟩ = some (.string p.2.1.1.t) := fun k => k.cell q2
          have Q3 : ∀ k : BW w3, k.val.cell? ⟨ga, 9, none⟩ = some (.slice p.2.1.1.LA p.2.1.1.ln p.2.1.1.lc) := fun k => k.cell q3
          have Q4 : ∀ k : BW w3, k.val.cell? ⟨ga, 10, none⟩ = some (.slice p.2.1.1.DA p.2.1.1.dn p.2.1.1.dc) := fun k => k.cell q4
          have Q5 : ∀ k : BW w3, k.val.cell? ⟨ga, 11, none⟩ = some (.bool p.2.2) := fun k => k.cell q5
          have hml := HML.out
          have i0 : (0 : Int) ≤ (m : Int) - 1 := by omega
          have i1 : (m : Int) - 1 < (m : Int) := by omega
          have W2 : ((m : Int) - 1).toNat = m - 1 := by omega
          have K1 : Hid (∀ k : BW w3, Calls Tryz.prog 147 #[aggK l.2, aggK p.2] k.val fun e w'' => e = .returned (.int .i64 (cmC (cutP l.2) (cutP p.2))) ∧ ∃ k : BW w3, w'' = k.val) := fun k =>
            Calls.bw (compare_any l.2 p.2 k.val ((HOl.out.step hwb.out).2.step k.below) ((HPk.out.step hwb.out).2.step k.below))
          clear hml r0 r1 r2 r3 r4 r5 q0 q1 q2 q3 q4 q5
          refine wp_region_bw (by kernel_rfl) (by kernel_rfl) ?_
          repeat (go_big_quiet_step (with_reducible exact K1.out _))
          refine wpQuiet_nil ?_
          rintro _ ⟨kw, rfl⟩
          have L2 := Lib.hid (L1.out.step kw.below)
          clear R0 R1 R2 R3 R4 R5 Q0 Q1 Q2 Q3 Q4 Q5 K1 i0 i1 W2 L1 hwb
          generalize kw.val = w4 at *
          by_cases hd : cmC (cutP l.2) (cutP p.2) < 0
          · have hml := HML.out
            have hst : stepS cmC ((d ++ [l]).map spP) (spP p) = (d ++ [(l.1, p.2)]).map spP := by
              rw [List.map_append, List.map_append]
              exact stepS_up hc hd
            have HI : Hid (MgI w w2 S (i + 1) (.slice (some ⟨g, 0, none⟩) m c3) (d ++ [(l.1, p.2)]) (setC w4 g ((m - 1) * 12 + 6) p.2)) := by
              have h0 := L2.out.i
              rw [HCS.out] at h0
              have := h0.put HP.out hst HPk.out hml
              rw [show d.length = m - 1 by omega] at this
              exact Lib.hid this
            have ho : w4.ownsRow w2.heap.size 127 12 (.slice (some ⟨g, 0, none⟩) m c3) m (flat recS cs) := by have := L2.out.i.own; rw [← HM.out] at this; exact this
            have z := ho.frozenAt
            have hrow : CAt w4 g ((m - 1) * 12 + 6) l.2 := by
              have ho := L2.out.i.own
              rw [← HM.out] at ho
              have hml := HML.out
              refine cat_of fun j v hj => ?_
              have hlt := (List.getElem?_eq_some_iff.1 hj).1
              rw [recK_length] at hlt
              rw [Nat.add_assoc, ho.cellAt _ (by omega)]
              refine flat_get recS_length (xs := cs) (a := l) (by rw [HCS.out, show m - 1 = d.length by omega]; simp) ?_
              show (recK l.1 ++ recK l.2)[6 + j]? = some v
              rw [List.getElem?_append_right (by rw [recK_length]; omega), recK_length, show 6 + j - 6 = j by omega]
              exact hj
            obtain ⟨⟨r0, r1, r2, r3, r4⟩, r5⟩ := hrow
            obtain ⟨_, ⟨⟨q0, q1, q2, q3, q4⟩, q5⟩⟩ := SAt.of_blk L2.out.b5
            have i0 : (0 : Int) ≤ (m : Int) - 1 := by omega
            have i1 : (m : Int) - 1 < (m : Int) := by omega
            have W2 : ((m : Int) - 1).toNat = m - 1 := by omega
            clear ho hst hml
            go_upto_region 12 with fail
            clear r0 r1 r2 r3 r4 r5 q0 q1 q2 q3 q4 q5 z i0 i1 W2
            obtain ⟨w5, hw5, HI5⟩ : ∃ w5, setC w4 g ((m - 1) * 12 + 6) p.2 = w5 ∧ Hid (MgI w w2 S (i + 1) (.slice (some ⟨g, 0, none⟩) m c3) (d ++ [(l.1, p.2)]) w5) := ⟨_, rfl, HI⟩
            unfold setC setV at hw5
            rw [hw5]
            clear hw5 HI
            go_wp2_with fail
            go_roundw
            case rel => exact ⟨i + 1, d ++ [(l.1, p.2)], by omega, by go_num, HI5.out⟩
            case measure => simp [intOf]; omega
          · have hst : stepS cmC (cs.map spP) (spP p) = cs.map spP := by
              rw [HCS.out, List.map_append]
              exact stepS_no hc hd
            have HI := Lib.hid (L2.out.i.same HP.out hst)
            clear hst
            go_wp2_with fail
            go_roundw
            case rel => exact ⟨i + 1, cs, by omega, by go_num, HI.out⟩
            case measure => simp [intOf]; omega
    · clear I
      go_wp2_with fail
      go_ret
      obtain ⟨A', c', e, hs⟩ := SS.of_own J.out.own rfl (by have := J.out.le; unfold reach; omega) (fun x hx => (J.out.ok x hx).step (HB2.out.trans (J.out.bel.mono HB2.out.size)))
      refine ⟨A', _, c', cs, by rw [← e]; rfl, ⟨S, HS.out, by rw [J.out.eq, List.take_of_length_le (by have := HSL.out; omega)]⟩, fun y hy => ⟨by obtain ⟨z, hz, e⟩ := (J.out.pr y hy).1; exact ⟨z, HS.out.1.subset hz, e⟩, by obtain ⟨z, hz, e⟩ := (J.out.pr y hy).2; exact ⟨z, HS.out.1.subset hz, e⟩⟩, fun b off hA => ?_, hs, ?_, HB2.out.trans (J.out.bel.mono HB2.out.size)⟩
      · have h1 := J.out.own
        rw [e, hA] at h1
        have := own_ge h1 b rfl
        have := HB2.out.size
        omega
      · have := J.out.le
        have := HL.out
        omega

end Go.Proofs.YtfkapannahcjiaaGreatDoor


