/- The library's stable sort at one element type, any length. (Printed by gen_sort5.py I.) -/
import Derived.Test.YtefolbfopjfbcaaSortGI
import Derived.Test.YtefolbfopjfbcaaSortTP
namespace Go.Proofs.Ytefolbfopjfbcaa
open Go.RowKit
set_option linter.unusedSectionVars false
variable [Inhabited Ctx]

/-- the first blocks are sorted, the rest is as it was -/
structure DoneI (bs : Nat) (L0 : List (Int × Nat)) (k : Nat) (A0 A R : List (Int × Nat)) : Prop where
  e : L0 = A0 ++ R
  l0 : A0.length = k * bs
  l : A.length = k * bs
  s : ∀ q, q < k → Sorted (fun p q : Int => gapC p q) (blk bs q A0) (blk bs q A)

/-- the first pairs of blocks are merged, the other blocks are sorted -/
structure MidI (bs : Nat) (L0 : List (Int × Nat)) (k : Nat) (A0 A R0 R : List (Int × Nat)) : Prop where
  e : L0 = A0 ++ R0
  l0 : A0.length = k * (2 * bs)
  l : A.length = k * (2 * bs)
  rl : R.length = R0.length
  s : ∀ q, q < k → Sorted (fun p q : Int => gapC p q) (blk (2 * bs) q A0) (blk (2 * bs) q A)
  t : ∀ q, Sorted (fun p q : Int => gapC p q) (blk bs q R0) (blk bs q R)
/-- a pair of blocks to be merged -/
structure PairI (bs : Nat) (R0 R X0 Y0 D0 X Y D : List (Int × Nat)) : Prop where
  e0 : R0 = X0 ++ (Y0 ++ D0)
  e : R = X ++ (Y ++ D)
  x0 : X0.length = bs
  x : X.length = bs
  y0 : Y0.length = bs ∨ (Y0.length ≤ bs ∧ D0 = [])
  y : Y.length = bs ∨ (Y.length ≤ bs ∧ D = [])
theorem pairI_of (bs : Nat) (R0 R : List (Int × Nat)) (hl : R.length = R0.length) (hb : bs ≤ R.length) : PairI bs R0 R (R0.take bs) ((R0.drop bs).take bs) ((R0.drop bs).drop bs) (R.take bs) ((R.drop bs).take bs) ((R.drop bs).drop bs) := by
  have aux : ∀ l : List (Int × Nat), (l.take bs).length = bs ∨ ((l.take bs).length ≤ bs ∧ l.drop bs = []) := fun l => by
    by_cases e : bs ≤ l.length
    · exact .inl (by rw [List.length_take]; omega)
    · exact .inr ⟨by rw [List.length_take]; omega, List.drop_eq_nil_of_le (by omega)⟩
  exact ⟨by rw [List.take_append_drop, List.take_append_drop], by rw [List.take_append_drop, List.take_append_drop], by rw [List.length_take]; omega, by rw [List.length_take]; omega, aux _, aux _⟩
theorem MidI.sorted {bs k : Nat} {L0 A0 A R0 R X0 Y0 D0 X Y D : List (Int × Nat)} (h : MidI bs L0 k A0 A R0 R) (hp : PairI bs R0 R X0 Y0 D0 X Y D) : Sorted (fun p q : Int => gapC p q) X0 X ∧ Sorted (fun p q : Int => gapC p q) Y0 Y :=
  runs_tail hp.x0 hp.y0 hp.x hp.y (by have := h.t; rw [hp.e0, hp.e] at this; exact this)
theorem MidI.halves {bs k : Nat} {L0 A0 A R0 R X0 Y0 D0 X Y D : List (Int × Nat)} (h : MidI bs L0 k A0 A R0 R) (hp : PairI bs R0 R X0 Y0 D0 X Y D) {g n : Nat} {w wr : World} (ht : Tagged L0) (hc : CmpOkI g w L0) (I : IsI g w (A ++ R) wr) (hn : n = L0.length) (hz : n * 8 ≤ reach) : HalvesI A X Y D g n wr := by
  obtain ⟨s1, s2⟩ := h.sorted hp
  have ht2 : Tagged (A0 ++ (X0 ++ (Y0 ++ D0))) := by rw [← hp.e0, ← h.e]; exact ht
  refine ⟨?_, ?_, hz, s1.2, s2.2, fun x hx y hy => ?_, hc.less I.but fun x hx => ?_⟩
  · have := I.row
    rw [hp.e] at this
    simpa using this
  · rw [hn, h.e, List.append_assoc, List.append_assoc, ← hp.e, List.length_append, List.length_append, h.l0, h.l, h.rl]
  · have q := (List.pairwise_append.1 (List.pairwise_append.1 ht2).2.1).2.2
    exact q x (s1.1.mem_iff.1 hx) y (by simp [s2.1.mem_iff.1 hy])
  · rw [h.e, hp.e0]
    rcases List.mem_append.1 hx with hx | hx
    · simp [s1.1.mem_iff.1 hx]
    · simp [s2.1.mem_iff.1 hx]
theorem Sorted.both {α : Type} {cm : α → α → Int} {X0 Y0 X Y S : List (α × Nat)} (h1 : Sorted cm X0 X) (h2 : Sorted cm Y0 Y) (h : Sorted cm (X ++ Y) S) : Sorted cm (X0 ++ Y0) S := ⟨h.1.trans (h1.1.append h2.1), h.2⟩
theorem MidI.next {bs k : Nat} {L0 A0 A R0 R X0 Y0 D0 X Y D S : List (Int × Nat)} (h : MidI bs L0 k A0 A R0 R) (hp : PairI bs R0 R X0 Y0 D0 X Y D) (hS : Sorted (fun p q : Int => gapC p q) (X ++ Y) S) (hy : Y.length = bs) (hy0 : Y0.length = bs) : MidI bs L0 (k + 1) (A0 ++ (X0 ++ Y0)) (A ++ S) D0 D := by
  obtain ⟨s1, s2⟩ := h.sorted hp
  have hS2 := Sorted.both s1 s2 hS
  have l1 : (X0 ++ Y0).length = 2 * bs := by rw [List.length_append, hp.x0, hy0]; omega
  have l2 : (X ++ Y).length = 2 * bs := by rw [List.length_append, hp.x, hy]; omega
  refine ⟨?_, ?_, ?_, ?_, runs_step h.l0 h.l h.s l1 hS2, fun q => runs_rest l1 l2 ?_ q⟩
  · rw [h.e, hp.e0]; simp
  · rw [List.length_append, h.l0, l1]; exact (Nat.succ_mul k (2 * bs)).symm
  · rw [List.length_append, h.l, hS.1.length_eq, l2]; exact (Nat.succ_mul k (2 * bs)).symm
  · have := h.rl
    rw [hp.e, hp.e0] at this
    simp [hp.x, hp.x0, hy, hy0] at this
    exact this
  · have := h.t
    rw [hp.e0, hp.e] at this
    simpa using this

theorem MidI.last {bs k : Nat} {L0 A0 A R0 R X0 Y0 X Y S : List (Int × Nat)} (h : MidI bs L0 k A0 A R0 R) (hp : PairI bs R0 R X0 Y0 [] X Y []) (hS : Sorted (fun p q : Int => gapC p q) (X ++ Y) S) (q : Nat) : Sorted (fun p q : Int => gapC p q) (blk (2 * bs) q L0) (blk (2 * bs) q (A ++ S)) := by
  obtain ⟨s1, s2⟩ := h.sorted hp
  have e : L0 = A0 ++ (X0 ++ Y0) := by rw [h.e, hp.e0, List.append_nil]
  rw [e]
  exact runs_last h.l0 h.l h.s (by rw [List.length_append, hp.x0]; rcases hp.y0 with q | ⟨q, _⟩ <;> omega) (Sorted.both s1 s2 hS) q
theorem MidI.lone {bs k : Nat} {L0 A0 A R0 R : List (Int × Nat)} (h : MidI bs L0 k A0 A R0 R) (hl : R.length ≤ bs) (q : Nat) : Sorted (fun p q : Int => gapC p q) (blk (2 * bs) q L0) (blk (2 * bs) q (A ++ R)) := by
  rw [h.e]
  exact runs_last h.l0 h.l h.s (by rw [← h.rl]; omega) (runs_all (by rw [← h.rl]; exact hl) hl h.t) q
set_option maxRecDepth 100000 in
set_option maxHeartbeats 4000000 in
theorem stableI_any (H : Ordered (fun p q : Int => gapC p q)) (L0 : List (Int × Nat)) (g n c : Nat) (w : World) (hr : SRowI w g L0) (hn : n = L0.length) (hz : n * 8 ≤ reach) (ht : Tagged L0) (hc : CmpOkI g w L0) :
    Calls Try.prog 49 #[.slice (some ⟨g, 0, none⟩) n c, .int .i64 n, .func (.func 48) #[] #[.pointer (some ⟨(default : Ctx).mc, 0, none⟩)]] w (IsDoneI g w [] L0 []) := by
  have HZ := Lib.hid hz
  unfold reach at hz
  have HN := Lib.hid hn
  have HT := Lib.hid ht
  have HC := Lib.hid hc
  have HO := Lib.hid H
  have I0 : Hid (IsI g w L0 w) := Lib.hid ⟨hr, But.refl⟩
  clear hr hn ht hc H
  go_enter Try.func49, Try.ntmps49
  go_wp2_with fail
  go_loopw [7, 8] (fun v7 v8 wr => ∃ (k a b : Nat) (A0 A R : List (Int × Nat)), v7 = .int .i64 a ∧ v8 = .int .i64 b ∧ b = a + 20 ∧ a = k * 20 ∧ a ≤ n ∧ DoneI 20 L0 k A0 A R ∧ IsI g w (A ++ R) wr) (fun _ v8 _ => n + 40 - (intOf v8).toNat)
  case atStart => exact ⟨0, 0, 20, [], [], L0, rfl, rfl, rfl, rfl, Nat.zero_le _, ⟨rfl, rfl, rfl, fun q hq => absurd hq (by omega)⟩, I0.out⟩
  case round =>
    obtain ⟨k, a, b, A0, A, R, rfl, rfl, hb, hk, han, hD, I⟩ := hrel
    have HB := Lib.hid hb
    have HK := Lib.hid hk
    have HD := Lib.hid hD
    have J := Lib.hid I
    have hRl : R.length = n - a := by have h1 := HN.out; rw [hD.e] at h1; simp [hD.l0] at h1; omega
    have HRl := Lib.hid hRl
    clear hk hD I hRl
    by_cases hlt : b ≤ n
    · have hb2 : b = a + 20 := hb
      have hl1 : (R.take 20).length = 20 := by rw [List.length_take]; have := HRl.out; omega
      have HL1 := Lib.hid hl1
      have HR : Hid (R = R.take 20 ++ R.drop 20) := (List.take_append_drop 20 R).symm
      have HM : ∀ x ∈ R, x ∈ L0 := fun x hx => by rw [HD.out.e]; simp [hx]
      have HM' := Lib.hid HM
      clear hb hb2 hl1 HM
      go_wp2_with fail
      refine (isortI_any HO.out A (R.take 20) (R.drop 20) g n c a b _ (by rw [List.append_assoc, ← HR.out]; exact J.out.row) (by rw [List.append_assoc, ← HR.out, List.length_append, HD.out.l, HRl.out, ← HK.out]; omega) (by rw [HD.out.l]; exact HK.out) (by rw [HD.out.l, HL1.out, ← HK.out]; exact HB.out) HZ.out ?_ ?_).mono ?_
      · have := HT.out
        rw [HD.out.e, HR.out] at this
        exact (List.pairwise_append.1 (List.pairwise_append.1 this).2.1).1
      · exact HC.out.less J.out.but (fun x hx => HM'.out x (List.mem_of_mem_take hx))
      rintro e w1 ⟨rfl, S, hS, h1⟩
      have HS := Lib.hid hS
      have H1 := Lib.hid (J.out.then h1)
      clear hS h1
      go_wp2_with fail
      go_roundw
      case rel =>
        refine ⟨k + 1, b, b + 20, A0 ++ R.take 20, A ++ S, R.drop 20, rfl, by go_num, rfl, by have := HB.out; have := HK.out; omega, hlt, ⟨by rw [List.append_assoc, ← HR.out]; exact HD.out.e, ?_, ?_, ?_⟩, H1.out⟩
        · rw [List.length_append, HD.out.l0, HL1.out]; omega
        · rw [List.length_append, HD.out.l, HS.out.1.length_eq, HL1.out]; omega
        · exact runs_step HD.out.l0 HD.out.l HD.out.s HL1.out HS.out
      case measure => simp [intOf]; omega
    · have hRl2 : R.length ≤ 20 := by have := HRl.out; omega
      have HM : ∀ x ∈ R, x ∈ L0 := fun x hx => by rw [HD.out.e]; simp [hx]
      have HM' := Lib.hid HM
      clear hb HM
      go_wp2_with fail
      refine (isortI_any HO.out A R [] g n c a n _ (by rw [List.append_nil]; exact J.out.row) (by rw [List.append_nil, List.length_append, HD.out.l, HRl.out, ← HK.out]; omega) (by rw [HD.out.l]; exact HK.out) (by rw [HD.out.l, HRl.out, ← HK.out]; omega) HZ.out ?_ ?_).mono ?_
      · have := HT.out
        rw [HD.out.e] at this
        exact (List.pairwise_append.1 this).2.1
      · exact HC.out.less J.out.but HM'.out
      rintro e w1 ⟨rfl, S, hS, h1⟩
      have J1 : Hid (IsI g w (A ++ S) w1) := by have := J.out.then h1; rw [List.append_nil] at this; exact this
      have HR1 : Hid (∀ q, Sorted (fun p q : Int => gapC p q) (blk 20 q L0) (blk 20 q (A ++ S))) := by rw [Hid, HD.out.e]; exact runs_last HD.out.l0 HD.out.l HD.out.s hRl2 hS
      have HLl : Hid ((A ++ S).length = L0.length) := by rw [Hid, HD.out.e, List.length_append, List.length_append, HD.out.l, HD.out.l0, hS.1.length_eq]
      clear hS h1
      go_wp2_with fail
      go_loopw [6] (fun v6 wr => ∃ (bs : Nat) (L : List (Int × Nat)), v6 = .int .i64 bs ∧ 20 ≤ bs ∧ bs ≤ 2 * n + 20 ∧ L.length = L0.length ∧ (∀ q, Sorted (fun p q : Int => gapC p q) (blk bs q L0) (blk bs q L)) ∧ IsI g w L wr) (fun v6 _ => n - (intOf v6).toNat)
      case atStart => exact ⟨20, A ++ S, rfl, Nat.le_refl _, by omega, HLl.out, HR1.out, J1.out⟩
      case round =>
        clear HB HK HD J HRl HM' J1 HR1 HLl
        obtain ⟨bs, L, rfl, hb1, hb2, hl, hR, I⟩ := hrel
        have HL := Lib.hid hl
        have HRu := Lib.hid hR
        have J := Lib.hid I
        clear hl hR I
        by_cases hlt2 : bs < n
        · go_wp2_with fail
          go_loopw [7, 8] (fun v7 v8 wr => ∃ (k a b : Nat) (A0 A R0 R : List (Int × Nat)), v7 = .int .i64 a ∧ v8 = .int .i64 b ∧ b = a + 2 * bs ∧ a ≤ n ∧ A.length = a ∧ MidI bs L0 k A0 A R0 R ∧ IsI g w (A ++ R) wr) (fun _ v8 _ => n + 1 - (intOf v8).toNat)
          case atStart => exact ⟨0, 0, 2 * bs, [], [], L0, L, rfl, by go_num, by omega, Nat.zero_le _, rfl, ⟨rfl, by simp, by simp, HL.out, fun q hq => absurd hq (by omega), HRu.out⟩, J.out⟩
          case round =>
            clear HL HRu J
            obtain ⟨k, a, b, A0, A, R0, R, rfl, rfl, hb, han, hA, hM, I⟩ := hrel
            have HB := Lib.hid hb
            have HA := Lib.hid hA
            have HM := Lib.hid hM
            have J := Lib.hid I
            have hRl : R.length = n - a := by have h1 := HN.out; rw [hM.e] at h1; have h2 := hM.l0; have h3 := hM.l; simp at h1; rw [hM.rl]; omega
            have HRl := Lib.hid hRl
            clear hM I hA
            by_cases hlt3 : b ≤ n
            · obtain ⟨X0, Y0, D0, X, Y, D, hp⟩ : ∃ X0 Y0 D0 X Y D, PairI bs R0 R X0 Y0 D0 X Y D := ⟨_, _, _, _, _, _, pairI_of bs R0 R HM.out.rl (by omega)⟩
              have hy : Y.length = bs := by
                have h1 := HRl.out
                rw [hp.e, List.length_append, List.length_append, hp.x] at h1
                rcases hp.y with q | ⟨q, rfl⟩
                · exact q
                · simp at h1; omega
              have hy0 : Y0.length = bs := by
                have h1 := HRl.out
                rw [HM.out.rl, hp.e0, List.length_append, List.length_append, hp.x0] at h1
                rcases hp.y0 with q | ⟨q, rfl⟩
                · exact q
                · simp at h1; omega
              have HPa := Lib.hid hp
              have HY := Lib.hid hy
              have HY0 := Lib.hid hy0
              have hbn : a + 2 * bs ≤ n := by omega
              clear hp hy hy0 hb hRl
              go_wp2_with fail
              refine (symI_any HO.out _ A X Y D g n c a (a + bs) b _ _ _ _ (HM.out.halves HPa.out HT.out HC.out J.out HN.out HZ.out) HA.out.symm (by rw [HPa.out.x]) (by rw [HY.out]; have := HB.out; omega) (by rw [HPa.out.x]; omega) (by rw [HY.out]; omega) (Nat.lt_succ_self _) rfl (by omega) rfl).mono ?_
              rintro e w2 ⟨rfl, S, hS, h1⟩
              have HS := Lib.hid hS
              have H1 := Lib.hid (J.out.then h1)
              clear hS h1
              go_wp2_with fail
              go_roundw
              case rel =>
                exact ⟨k + 1, b, b + 2 * bs, _, A ++ S, _, D, rfl, by go_num, rfl, hlt3, by rw [List.length_append, HS.out.1.length_eq, List.length_append, HA.out, HPa.out.x, HY.out]; have := HB.out; omega, HM.out.next HPa.out HS.out HY.out HY0.out, H1.out⟩
              case measure => simp [intOf]; omega
            · have hab : n < a + 2 * bs := by omega
              clear hb hRl
              by_cases hm : a + bs < n
              · obtain ⟨X0, Y0, X, Y, hp⟩ : ∃ X0 Y0 X Y, PairI bs R0 R X0 Y0 [] X Y [] := by
                  have q := pairI_of bs R0 R HM.out.rl (by have := HRl.out; omega)
                  rw [show (R0.drop bs).drop bs = [] from List.eq_nil_of_length_eq_zero (by have := HRl.out; have := HM.out.rl; simp; omega), show (R.drop bs).drop bs = [] from List.eq_nil_of_length_eq_zero (by have := HRl.out; simp; omega)] at q
                  exact ⟨_, _, _, _, q⟩
                have hy : Y.length = n - a - bs := by have h1 := HRl.out; rw [hp.e] at h1; have := hp.x; simp at h1; omega
                have HPa := Lib.hid hp
                have HY := Lib.hid hy
                clear hp hy
                go_wp2_with fail
                refine (symI_any HO.out _ A X Y [] g n c a (a + bs) n _ _ _ _ (HM.out.halves HPa.out HT.out HC.out J.out HN.out HZ.out) HA.out.symm (by rw [HPa.out.x]) (by rw [HY.out]; omega) (by rw [HPa.out.x]; omega) (by rw [HY.out]; omega) (Nat.lt_succ_self _) rfl (by omega) rfl).mono ?_
                rintro e w2 ⟨rfl, S, hS, h1⟩
                have HS := Lib.hid hS
                have H1 : Hid (IsI g w (A ++ S) w2) := by have := J.out.then h1; rw [List.append_nil] at this; exact this
                clear hS h1
                go_wp2_with fail
                go_roundw
                case rel =>
                  exact ⟨2 * bs, A ++ S, by go_num, by omega, by omega, by rw [List.length_append, HS.out.1.length_eq, List.length_append, HA.out, HPa.out.x, HY.out, ← HN.out]; omega, HM.out.last HPa.out HS.out, H1.out⟩
                case measure => simp [intOf]; omega
              · go_wp2_with fail
                go_roundw
                case rel =>
                  exact ⟨2 * bs, A ++ R, by go_num, by omega, by omega, by rw [List.length_append, HA.out, HRl.out, ← HN.out]; omega, HM.out.lone (by have := HRl.out; omega), J.out⟩
                case measure => simp [intOf]; omega
        · have HE : Hid (Sorted (fun p q : Int => gapC p q) L0 L) := runs_all (by rw [← HN.out]; omega) (by rw [HL.out, ← HN.out]; omega) HRu.out
          go_wp2_with fail
          go_end0
          exact ⟨rfl, L, HE.out, by have := J.out; simpa using this⟩

end Go.Proofs.Ytefolbfopjfbcaa
