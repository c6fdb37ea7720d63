/- Parts of the proof, joined: SortTSp, RgRec, SortIB, SortRB, SortMB, SortGB. -/
import Derived.Test.YtfkapannahcjiaaGreatDoorAp18
import Derived.Test.YtfkapannahcjiaaGreatDoorAp2
import Derived.Test.YtfkapannahcjiaaGreatDoorAp1
import Derived.Test.YtfkapannahcjiaaGreatDoorAp17
import Derived.Test.YtfkapannahcjiaaGreatDoorAp16
import Derived.IntWalk
/- The library's stable sort at one element type, any length. (Printed by gen_sort5.py Sp.) -/
namespace Go.Proofs.YtfkapannahcjiaaGreatDoor
open Go.RowKit

/-- the first blocks are sorted, the rest is as it was -/
structure DoneSp (bs : Nat) (L0 : List (PS × Nat)) (k : Nat) (A0 A R : List (PS × Nat)) : Prop where
  e : L0 = A0 ++ R
  l0 : A0.length = k * bs
  l : A.length = k * bs
  s : ∀ q, q < k → Sorted (fun p q : PS => cmC (spP p).1 (spP q).1) (blk bs q A0) (blk bs q A)

/-- the first pairs of blocks are merged, the other blocks are sorted -/
structure MidSp (bs : Nat) (L0 : List (PS × Nat)) (k : Nat) (A0 A R0 R : List (PS × Nat)) : Prop where
  e : L0 = A0 ++ R0
  l0 : A0.length = k * (2 * bs)
  l : A.length = k * (2 * bs)
  rl : R.length = R0.length
  s : ∀ q, q < k → Sorted (fun p q : PS => cmC (spP p).1 (spP q).1) (blk (2 * bs) q A0) (blk (2 * bs) q A)
  t : ∀ q, Sorted (fun p q : PS => cmC (spP p).1 (spP q).1) (blk bs q R0) (blk bs q R)
/-- a pair of blocks to be merged -/
structure PairSp (bs : Nat) (R0 R X0 Y0 D0 X Y D : List (PS × Nat)) : Prop where
  e0 : R0 = X0 ++ (Y0 ++ D0)
  e : R = X ++ (Y ++ D)
  x0 : X0.length = bs
  x : X.length = bs
  y0 : Y0.length = bs ∨ (Y0.length ≤ bs ∧ D0 = [])
  y : Y.length = bs ∨ (Y.length ≤ bs ∧ D = [])
theorem pairSp_of (bs : Nat) (R0 R : List (PS × Nat)) (hl : R.length = R0.length) (hb : bs ≤ R.length) : PairSp bs R0 R (R0.take bs) ((R0.drop bs).take bs) ((R0.drop bs).drop bs) (R.take bs) ((R.drop bs).take bs) ((R.drop bs).drop bs) := by
  have aux : ∀ l : List (PS × Nat), (l.take bs).length = bs ∨ ((l.take bs).length ≤ bs ∧ l.drop bs = []) := fun l => by
    by_cases e : bs ≤ l.length
    · exact .inl (by rw [List.length_take]; omega)
    · exact .inr ⟨by rw [List.length_take]; omega, List.drop_eq_nil_of_le (by omega)⟩
  exact ⟨by rw [List.take_append_drop, List.take_append_drop], by rw [List.take_append_drop, List.take_append_drop], by rw [List.length_take]; omega, by rw [List.length_take]; omega, aux _, aux _⟩
theorem MidSp.sorted {bs k : Nat} {L0 A0 A R0 R X0 Y0 D0 X Y D : List (PS × Nat)} (h : MidSp bs L0 k A0 A R0 R) (hp : PairSp bs R0 R X0 Y0 D0 X Y D) : Sorted (fun p q : PS => cmC (spP p).1 (spP q).1) X0 X ∧ Sorted (fun p q : PS => cmC (spP p).1 (spP q).1) Y0 Y :=
  runs_tail hp.x0 hp.y0 hp.x hp.y (by have := h.t; rw [hp.e0, hp.e] at this; exact this)
theorem MidSp.halves {bs k : Nat} {L0 A0 A R0 R X0 Y0 D0 X Y D : List (PS × Nat)} (h : MidSp bs L0 k A0 A R0 R) (hp : PairSp bs R0 R X0 Y0 D0 X Y D) {g n : Nat} {w wr : World} (ht : Tagged L0) (hc : CmpOkSp g w L0) (I : IsSp g w (A ++ R) wr) (hn : n = L0.length) (hz : n * 176 ≤ reach) : HalvesSp A X Y D g n wr := by
  obtain ⟨s1, s2⟩ := h.sorted hp
  have ht2 : Tagged (A0 ++ (X0 ++ (Y0 ++ D0))) := by rw [← hp.e0, ← h.e]; exact ht
  refine ⟨?_, ?_, hz, s1.2, s2.2, fun x hx y hy => ?_, hc.less I.but fun x hx => ?_⟩
  · have := I.row
    rw [hp.e] at this
    simpa using this
  · rw [hn, h.e, List.append_assoc, List.append_assoc, ← hp.e, List.length_append, List.length_append, h.l0, h.l, h.rl]
  · have q := (List.pairwise_append.1 (List.pairwise_append.1 ht2).2.1).2.2
    exact q x (s1.1.mem_iff.1 hx) y (by simp [s2.1.mem_iff.1 hy])
  · rw [h.e, hp.e0]
    rcases List.mem_append.1 hx with hx | hx
    · simp [s1.1.mem_iff.1 hx]
    · simp [s2.1.mem_iff.1 hx]
theorem Sorted.both {α : Type} {cm : α → α → Int} {X0 Y0 X Y S : List (α × Nat)} (h1 : Sorted cm X0 X) (h2 : Sorted cm Y0 Y) (h : Sorted cm (X ++ Y) S) : Sorted cm (X0 ++ Y0) S := ⟨h.1.trans (h1.1.append h2.1), h.2⟩
theorem MidSp.next {bs k : Nat} {L0 A0 A R0 R X0 Y0 D0 X Y D S : List (PS × Nat)} (h : MidSp bs L0 k A0 A R0 R) (hp : PairSp bs R0 R X0 Y0 D0 X Y D) (hS : Sorted (fun p q : PS => cmC (spP p).1 (spP q).1) (X ++ Y) S) (hy : Y.length = bs) (hy0 : Y0.length = bs) : MidSp bs L0 (k + 1) (A0 ++ (X0 ++ Y0)) (A ++ S) D0 D := by
  obtain ⟨s1, s2⟩ := h.sorted hp
  have hS2 := Sorted.both s1 s2 hS
  have l1 : (X0 ++ Y0).length = 2 * bs := by rw [List.length_append, hp.x0, hy0]; omega
  have l2 : (X ++ Y).length = 2 * bs := by rw [List.length_append, hp.x, hy]; omega
  refine ⟨?_, ?_, ?_, ?_, runs_step h.l0 h.l h.s l1 hS2, fun q => runs_rest l1 l2 ?_ q⟩
  · rw [h.e, hp.e0]; simp
  · rw [List.length_append, h.l0, l1]; exact (Nat.succ_mul k (2 * bs)).symm
  · rw [List.length_append, h.l, hS.1.length_eq, l2]; exact (Nat.succ_mul k (2 * bs)).symm
  · have := h.rl
    rw [hp.e, hp.e0] at this
    simp [hp.x, hp.x0, hy, hy0] at this
    exact this
  · have := h.t
    rw [hp.e0, hp.e] at this
    simpa using this

theorem MidSp.last {bs k : Nat} {L0 A0 A R0 R X0 Y0 X Y S : List (PS × Nat)} (h : MidSp bs L0 k A0 A R0 R) (hp : PairSp bs R0 R X0 Y0 [] X Y []) (hS : Sorted (fun p q : PS => cmC (spP p).1 (spP q).1) (X ++ Y) S) (q : Nat) : Sorted (fun p q : PS => cmC (spP p).1 (spP q).1) (blk (2 * bs) q L0) (blk (2 * bs) q (A ++ S)) := by
  obtain ⟨s1, s2⟩ := h.sorted hp
  have e : L0 = A0 ++ (X0 ++ Y0) := by rw [h.e, hp.e0, List.append_nil]
  rw [e]
  exact runs_last h.l0 h.l h.s (by rw [List.length_append, hp.x0]; rcases hp.y0 with q | ⟨q, _⟩ <;> omega) (Sorted.both s1 s2 hS) q
theorem MidSp.lone {bs k : Nat} {L0 A0 A R0 R : List (PS × Nat)} (h : MidSp bs L0 k A0 A R0 R) (hl : R.length ≤ bs) (q : Nat) : Sorted (fun p q : PS => cmC (spP p).1 (spP q).1) (blk (2 * bs) q L0) (blk (2 * bs) q (A ++ R)) := by
  rw [h.e]
  exact runs_last h.l0 h.l h.s (by rw [← h.rl]; omega) (runs_all (by rw [← h.rl]; exact hl) hl h.t) q
set_option maxRecDepth 100000 in
set_option maxHeartbeats 4000000 in
theorem stableSp_any (H : Ordered (fun p q : PS => cmC (spP p).1 (spP q).1)) (L0 : List (PS × Nat)) (g n c : Nat) (w : World) (hr : SRowSp w g L0) (hn : n = L0.length) (hz : n * 176 ≤ reach) (ht : Tagged L0) (hc : CmpOkSp g w L0) :
    Calls Tryz.prog 179 #[.slice (some ⟨g, 0, none⟩) n c, .int .i64 n, .func (.func 146) #[] #[]] w (IsDoneSp g w [] L0 []) := by
  have HZ := Lib.hid hz
  unfold reach at hz
  have HN := Lib.hid hn
  have HT := Lib.hid ht
  have HC := Lib.hid hc
  have HO := Lib.hid H
  have I0 : Hid (IsSp g w L0 w) := Lib.hid ⟨hr, But.refl⟩
  clear hr hn ht hc H
  go_enter Tryz.func179, Tryz.ntmps179
  go_wp2_with fail
  go_loopw [7, 8] (fun v7 v8 wr => ∃ (k a b : Nat) (A0 A R : List (PS × Nat)), v7 = .int .i64 a ∧ v8 = .int .i64 b ∧ b = a + 20 ∧ a = k * 20 ∧ a ≤ n ∧ DoneSp 20 L0 k A0 A R ∧ IsSp g w (A ++ R) wr) (fun _ v8 _ => n + 40 - (intOf v8).toNat)
  case atStart => exact ⟨0, 0, 20, [], [], L0, rfl, rfl, rfl, rfl, Nat.zero_le _, ⟨rfl, rfl, rfl, fun q hq => absurd hq (by omega)⟩, I0.out⟩
  case round =>
    obtain ⟨k, a, b, A0, A, R, rfl, rfl, hb, hk, han, hD, I⟩ := hrel
    have HB := Lib.hid hb
    have HK := Lib.hid hk
    have HD := Lib.hid hD
    have J := Lib.hid I
    have hRl : R.length = n - a := by have h1 := HN.out; rw [hD.e] at h1; simp [hD.l0] at h1; omega
    have HRl := Lib.hid hRl
    clear hk hD I hRl
    by_cases hlt : b ≤ n
    · have hb2 : b = a + 20 := hb
      have hl1 : (R.take 20).length = 20 := by rw [List.length_take]; have := HRl.out; omega
      have HL1 := Lib.hid hl1
      have HR : Hid (R = R.take 20 ++ R.drop 20) := (List.take_append_drop 20 R).symm
      have HM : ∀ x ∈ R, x ∈ L0 := fun x hx => by rw [HD.out.e]; simp [hx]
      have HM' := Lib.hid HM
      clear hb hb2 hl1 HM
      go_wp2_with fail
      refine (isortSp_any HO.out A (R.take 20) (R.drop 20) g n c a b _ (by rw [List.append_assoc, ← HR.out]; exact J.out.row) (by rw [List.append_assoc, ← HR.out, List.length_append, HD.out.l, HRl.out, ← HK.out]; omega) (by rw [HD.out.l]; exact HK.out) (by rw [HD.out.l, HL1.out, ← HK.out]; exact HB.out) HZ.out ?_ ?_).mono ?_
      · have := HT.out
        rw [HD.out.e, HR.out] at this
        exact (List.pairwise_append.1 (List.pairwise_append.1 this).2.1).1
      · exact HC.out.less J.out.but (fun x hx => HM'.out x (List.mem_of_mem_take hx))
      rintro e w1 ⟨rfl, S, hS, h1⟩
      have HS := Lib.hid hS
      have H1 := Lib.hid (J.out.then h1)
      clear hS h1
      go_wp2_with fail
      go_roundw
      case rel =>
        refine ⟨k + 1, b, b + 20, A0 ++ R.take 20, A ++ S, R.drop 20, rfl, by go_num, rfl, by have := HB.out; have := HK.out; omega, hlt, ⟨by rw [List.append_assoc, ← HR.out]; exact HD.out.e, ?_, ?_, ?_⟩, H1.out⟩
        · rw [List.length_append, HD.out.l0, HL1.out]; omega
        · rw [List.length_append, HD.out.l, HS.out.1.length_eq, HL1.out]; omega
        · exact runs_step HD.out.l0 HD.out.l HD.out.s HL1.out HS.out
      case measure => simp [intOf]; omega
    · have hRl2 : R.length ≤ 20 := by have := HRl.out; omega
      have HM : ∀ x ∈ R, x ∈ L0 := fun x hx => by rw [HD.out.e]; simp [hx]
      have HM' := Lib.hid HM
      clear hb HM
      go_wp2_with fail
      refine (isortSp_any HO.out A R [] g n c a n _ (by rw [List.append_nil]; exact J.out.row) (by rw [List.append_nil, List.length_append, HD.out.l, HRl.out, ← HK.out]; omega) (by rw [HD.out.l]; exact HK.out) (by rw [HD.out.l, HRl.out, ← HK.out]; omega) HZ.out ?_ ?_).mono ?_
      · have := HT.out
        rw [HD.out.e] at this
        exact (List.pairwise_append.1 this).2.1
      · exact HC.out.less J.out.but HM'.out
      rintro e w1 ⟨rfl, S, hS, h1⟩
      have J1 : Hid (IsSp g w (A ++ S) w1) := by have := J.out.then h1; rw [List.append_nil] at this; exact this
      have HR1 : Hid (∀ q, Sorted (fun p q : PS => cmC (spP p).1 (spP q).1) (blk 20 q L0) (blk 20 q (A ++ S))) := by rw [Hid, HD.out.e]; exact runs_last HD.out.l0 HD.out.l HD.out.s hRl2 hS
      have HLl : Hid ((A ++ S).length = L0.length) := by rw [Hid, HD.out.e, List.length_append, List.length_append, HD.out.l, HD.out.l0, hS.1.length_eq]
      clear hS h1
      go_wp2_with fail
      go_loopw [6] (fun v6 wr => ∃ (bs : Nat) (L : List (PS × Nat)), v6 = .int .i64 bs ∧ 20 ≤ bs ∧ bs ≤ 2 * n + 20 ∧ L.length = L0.length ∧ (∀ q, Sorted (fun p q : PS => cmC (spP p).1 (spP q).1) (blk bs q L0) (blk bs q L)) ∧ IsSp g w L wr) (fun v6 _ => n - (intOf v6).toNat)
      case atStart => exact ⟨20, A ++ S, rfl, Nat.le_refl _, by omega, HLl.out, HR1.out, J1.out⟩
      case round =>
        clear HB HK HD J HRl HM' J1 HR1 HLl
        obtain ⟨bs, L, rfl, hb1, hb2, hl, hR, I⟩ := hrel
        have HL := Lib.hid hl
        have HRu := Lib.hid hR
        have J := Lib.hid I
        clear hl hR I
        by_cases hlt2 : bs < n
        · go_wp2_with fail
          go_loopw [7, 8] (fun v7 v8 wr => ∃ (k a b : Nat) (A0 A R0 R : List (PS × Nat)), v7 = .int .i64 a ∧ v8 = .int .i64 b ∧ b = a + 2 * bs ∧ a ≤ n ∧ A.length = a ∧ MidSp bs L0 k A0 A R0 R ∧ IsSp g w (A ++ R) wr) (fun _ v8 _ => n + 1 - (intOf v8).toNat)
          case atStart => exact ⟨0, 0, 2 * bs, [], [], L0, L, rfl, by go_num, by omega, Nat.zero_le _, rfl, ⟨rfl, by simp, by simp, HL.out, fun q hq => absurd hq (by omega), HRu.out⟩, J.out⟩
          case round =>
            clear HL HRu J
            obtain ⟨k, a, b, A0, A, R0, R, rfl, rfl, hb, han, hA, hM, I⟩ := hrel
            have HB := Lib.hid hb
            have HA := Lib.hid hA
            have HM := Lib.hid hM
            have J := Lib.hid I
            have hRl : R.length = n - a := by have h1 := HN.out; rw [hM.e] at h1; have h2 := hM.l0; have h3 := hM.l; simp at h1; rw [hM.rl]; omega
            have HRl := Lib.hid hRl
            clear hM I hA
            by_cases hlt3 : b ≤ n
            · obtain ⟨X0, Y0, D0, X, Y, D, hp⟩ : ∃ X0 Y0 D0 X Y D, PairSp bs R0 R X0 Y0 D0 X Y D := ⟨_, _, _, _, _, _, pairSp_of bs R0 R HM.out.rl (by omega)⟩
              have hy : Y.length = bs := by
                have h1 := HRl.out
                rw [hp.e, List.length_append, List.length_append, hp.x] at h1
                rcases hp.y with q | ⟨q, rfl⟩
                · exact q
                · simp at h1; omega
              have hy0 : Y0.length = bs := by
                have h1 := HRl.out
                rw [HM.out.rl, hp.e0, List.length_append, List.length_append, hp.x0] at h1
                rcases hp.y0 with q | ⟨q, rfl⟩
                · exact q
                · simp at h1; omega
              have HPa := Lib.hid hp
              have HY := Lib.hid hy
              have HY0 := Lib.hid hy0
              have hbn : a + 2 * bs ≤ n := by omega
              clear hp hy hy0 hb hRl
              go_wp2_with fail
              refine (symSp_any HO.out _ A X Y D g n c a (a + bs) b _ _ _ _ (HM.out.halves HPa.out HT.out HC.out J.out HN.out HZ.out) HA.out.symm (by rw [HPa.out.x]) (by rw [HY.out]; have := HB.out; omega) (by rw [HPa.out.x]; omega) (by rw [HY.out]; omega) (Nat.lt_succ_self _) rfl (by omega) rfl).mono ?_
              rintro e w2 ⟨rfl, S, hS, h1⟩
              have HS := Lib.hid hS
              have H1 := Lib.hid (J.out.then h1)
              clear hS h1
              go_wp2_with fail
              go_roundw
              case rel =>
                exact ⟨k + 1, b, b + 2 * bs, _, A ++ S, _, D, rfl, by go_num, rfl, hlt3, by rw [List.length_append, HS.out.1.length_eq, List.length_append, HA.out, HPa.out.x, HY.out]; have := HB.out; omega, HM.out.next HPa.out HS.out HY.out HY0.out, H1.out⟩
              case measure => simp [intOf]; omega
            · have hab : n < a + 2 * bs := by omega
              clear hb hRl
              by_cases hm : a + bs < n
              · obtain ⟨X0, Y0, X, Y, hp⟩ : ∃ X0 Y0 X Y, PairSp bs R0 R X0 Y0 [] X Y [] := by
                  have q := pairSp_of bs R0 R HM.out.rl (by have := HRl.out; omega)
                  rw [show (R0.drop bs).drop bs = [] from List.eq_nil_of_length_eq_zero (by have := HRl.out; have := HM.out.rl; simp; omega), show (R.drop bs).drop bs = [] from List.eq_nil_of_length_eq_zero (by have := HRl.out; simp; omega)] at q
                  exact ⟨_, _, _, _, q⟩
                have hy : Y.length = n - a - bs := by have h1 := HRl.out; rw [hp.e] at h1; have := hp.x; simp at h1; omega
                have HPa := Lib.hid hp
                have HY := Lib.hid hy
                clear hp hy
                go_wp2_with fail
                refine (symSp_any HO.out _ A X Y [] g n c a (a + bs) n _ _ _ _ (HM.out.halves HPa.out HT.out HC.out J.out HN.out HZ.out) HA.out.symm (by rw [HPa.out.x]) (by rw [HY.out]; omega) (by rw [HPa.out.x]; omega) (by rw [HY.out]; omega) (Nat.lt_succ_self _) rfl (by omega) rfl).mono ?_
                rintro e w2 ⟨rfl, S, hS, h1⟩
                have HS := Lib.hid hS
                have H1 : Hid (IsSp g w (A ++ S) w2) := by have := J.out.then h1; rw [List.append_nil] at this; exact this
                clear hS h1
                go_wp2_with fail
                go_roundw
                case rel =>
                  exact ⟨2 * bs, A ++ S, by go_num, by omega, by omega, by rw [List.length_append, HS.out.1.length_eq, List.length_append, HA.out, HPa.out.x, HY.out, ← HN.out]; omega, HM.out.last HPa.out HS.out, H1.out⟩
                case measure => simp [intOf]; omega
              · go_wp2_with fail
                go_roundw
                case rel =>
                  exact ⟨2 * bs, A ++ R, by go_num, by omega, by omega, by rw [List.length_append, HA.out, HRl.out, ← HN.out]; omega, HM.out.lone (by have := HRl.out; omega), J.out⟩
                case measure => simp [intOf]; omega
        · have HE : Hid (Sorted (fun p q : PS => cmC (spP p).1 (spP q).1) L0 L) := runs_all (by rw [← HN.out]; omega) (by rw [HL.out, ← HN.out]; omega) HRu.out
          go_wp2_with fail
          go_end0
          exact ⟨rfl, L, HE.out, by have := J.out; simpa using this⟩

end Go.Proofs.YtfkapannahcjiaaGreatDoor



/- Pairs of texts as rows of two cells, and their order. -/
namespace Go.Proofs.YtfkapannahcjiaaGreatDoor
open Go.RowKit
abbrev B2 := ByteArray × ByteArray
def recB2 (p : B2) : List Value := [.string p.1, .string p.2]
theorem recB2_length (p : B2) : (recB2 p).length = 2 := rfl
theorem recB2_one (p : B2) : ∀ u ∈ recB2 p, u.oneCell' = true := by simp [recB2, Value.oneCell']
def cmB2 (p q : B2) : Int := lex (cmpB p.1 q.1) (cmpB p.2 q.2)
/-- in the order of pairs the first texts do not descend -/
theorem cmB2_le {p q : B2} (h : cmB2 p q ≤ 0) : ¬ cmpB q.1 p.1 < 0 := by
  unfold cmB2 lex at h
  have := cmpB_anti p.1 q.1
  split at h
  · omega
  · omega
end Go.Proofs.YtfkapannahcjiaaGreatDoor



/- The library's insertion sort at one element type. (Printed by gen_sort.py B.) -/
namespace Go.Proofs.YtfkapannahcjiaaGreatDoor
open Go.RowKit

def recTB (e : B2 × Nat) : List Value := recB2 e.1
theorem recTB_length (e : B2 × Nat) : (recTB e).length = 2 := recB2_length e.1
/-- block g begins with the row of the elements L -/
def SRowB (w : World) (g : Nat) (L : List (B2 × Nat)) : Prop := ∃ R : List Value, Blk w g 45 (flat recTB L ++ R).toArray
abbrev aggB (p : B2 × Nat) : Value := .agg #[.string p.1.1, .string p.1.2]
section
variable {w w' : World} {g : Nat} {L : List (B2 × Nat)}
theorem SRowB.cell (h : SRowB w g L) {j : Nat} {p : B2 × Nat} (hj : L[j]? = some p) (i : Nat) (v : Value) (hi : (recTB p)[i]? = some v) : w.cell? ⟨g, j * 2 + i, none⟩ = some v := by
  obtain ⟨R, h⟩ := h
  have hf := flat_get recTB_length hj hi
  rw [Blk.cell h (j * 2 + i), List.getElem?_toArray, List.getElem?_append_left (List.getElem?_eq_some_iff.1 hf).1]
  exact hf
theorem SRowB.step (h : SRowB w g L) (hb : Below w.heap.size w w') : SRowB w' g L := by obtain ⟨R, h⟩ := h; exact ⟨R, Blk.step h hb⟩
theorem SRowB.drew (h : SRowB w g L) : SRowB w.drew g L := by obtain ⟨R, h⟩ := h; exact ⟨R, Blk.drew h⟩
theorem SRowB.frozen (h : SRowB w g L) (i : Nat) : w.frozen? ⟨g, i, none⟩ = false := by obtain ⟨R, h⟩ := h; exact Blk.frozen h i
theorem SRowB.lt (h : SRowB w g L) : g < w.heap.size := by obtain ⟨R, h⟩ := h; exact Blk.lt h
theorem SRowB.put (h : SRowB w g L) {j : Nat} (hj : j < L.length) (p : B2 × Nat) : SRowB ((w.setCell ⟨g, j * 2, none⟩ (.string p.1.1)).setCell ⟨g, j * 2 + 1, none⟩ (.string p.1.2)) g (L.set j p) := by
  obtain ⟨R, h⟩ := h
  have hl := flat_length recTB_length L
  have e : flat recTB (L.set j p) ++ R = setList (flat recTB L ++ R) (j * 2) (recTB p) := by
    rw [flat_set recTB_length L j p hj, setList_app _ _ _ _ (by rw [recTB_length]; omega)]
  refine ⟨R, ?_⟩
  rw [e]
  clear e hl
  generalize flat recTB L ++ R = X at h ⊢
  have := Blk.set_ (Blk.set_ h (j * 2) (.string p.1.1)) (j * 2 + 1) (.string p.1.2)
  rw [show (setList X (j * 2) (recTB p)).toArray = ((X.toArray.setIfInBounds (j * 2) (.string p.1.1)).setIfInBounds (j * 2 + 1) (.string p.1.2)) from by simp [setList, recTB, recB2]]
  exact this
end

/-- the comparison's contract at the elements of a row -/
def CmpOkB (g : Nat) (w : World) (U : List (B2 × Nat)) : Prop := ∀ (x y : B2 × Nat), x ∈ U → y ∈ U → ∀ wr, But g w wr →
    Calls Tryz.prog 69 #[aggB x, aggB y] wr fun e w' => e = .returned (.int .i64 (cmB2 x.1 y.1)) ∧ Below wr.heap.size wr w'
structure IsB (g : Nat) (w : World) (L : List (B2 × Nat)) (wr : World) : Prop where
  row : SRowB wr g L
  but : But g w wr
theorem IsB.step {g : Nat} {w wr w' : World} {L : List (B2 × Nat)} (h : IsB g w L wr) (hb : Below wr.heap.size wr w') : IsB g w L w' := ⟨h.row.step hb, h.but.step hb⟩
theorem IsB.swap {g : Nat} {w w2 : World} {L : List (B2 × Nat)} (h : IsB g w L w2) {jj : Nat} (hl : jj < L.length) (x y : B2 × Nat) : IsB g w ((L.set jj y).set (jj - 1) x) ((((w2.setCell ⟨g, jj * 2, none⟩ (.string y.1.1)).setCell ⟨g, jj * 2 + 1, none⟩ (.string y.1.2)).setCell ⟨g, (jj - 1) * 2, none⟩ (.string x.1.1)).setCell ⟨g, (jj - 1) * 2 + 1, none⟩ (.string x.1.2)).drew :=
  ⟨SRowB.drew ((h.row.put hl y).put (j := jj - 1) (by rw [List.length_set]; omega) x), But.step ((((h.but.set (p := ⟨g, jj * 2, none⟩) rfl (.string y.1.1)).set (p := ⟨g, jj * 2 + 1, none⟩) rfl (.string y.1.2)).set (p := ⟨g, (jj - 1) * 2, none⟩) rfl (.string x.1.1)).set (p := ⟨g, (jj - 1) * 2 + 1, none⟩) rfl (.string x.1.2)) ((Below.refl _ _).drew)⟩
def IsDoneB (g : Nat) (w : World) (A Seg D : List (B2 × Nat)) (e : Ending) (w' : World) : Prop :=
  e = .returned (.tuple #[]) ∧ ∃ S, Sorted cmB2 Seg S ∧ IsB g w (A ++ S ++ D) w'

set_option maxRecDepth 100000 in
set_option maxHeartbeats 4000000 in
theorem isortB_any (H : Ordered cmB2) (A Seg D : List (B2 × Nat)) (g n c a b : Nat) (w : World) (hr : SRowB w g (A ++ Seg ++ D)) (hn : n = (A ++ Seg ++ D).length) (ha : a = A.length) (hb : b = A.length + Seg.length)
    (hz : n * 32 ≤ reach) (ht : Tagged Seg) (hc : CmpOkB g w Seg) :
    Calls Tryz.prog 150 #[.slice (some ⟨g, 0, none⟩) n c, .int .i64 a, .int .i64 b, .func (.func 69) #[] #[]] w (IsDoneB g w A Seg D) := by
  unfold reach at hz
  have HN := Lib.hid hn
  have HA := Lib.hid ha
  have HBq := Lib.hid hb
  have hab : a ≤ b := by omega
  have hbn : b ≤ n := by rw [hn]; simp; omega
  have HC := Lib.hid hc
  have HT := Lib.hid ht
  have HO := Lib.hid H
  have I0 : Hid (IsB g w (A ++ Seg ++ D) w) := Lib.hid ⟨hr, But.refl⟩
  clear hr hn ha hb ht hc H
  cases hs : Seg with
  | nil =>
    have hab' : b ≤ a := by have := HA.out; have := HBq.out; rw [hs] at this; simp at this; omega
    have HS := Lib.hid hs
    clear hs
    go_enter Tryz.func150, Tryz.ntmps150
    go_wp2_with fail
    go_loopw [8] (fun v8 wr => v8 = .int .i64 (a + 1) ∧ wr = w) (fun _ _ => 0)
    case atStart => exact ⟨by go_num, rfl⟩
    case round =>
      obtain ⟨rfl, rfl⟩ := hrel
      go_wp2_with fail
      go_end0
      exact ⟨rfl, [], Sorted.nil, by have := I0.out; rw [HS.out] at this; exact this⟩
  | cons x0 rest =>
    have HS := Lib.hid hs
    clear hs
    rw [← HS.out]
    go_enter Tryz.func150, Tryz.ntmps150
    go_wp2_with fail
    go_loopw [8] (fun v8 wr => ∃ (i : Nat) (P Q S : List (B2 × Nat)), v8 = .int .i64 i ∧ i = a + P.length ∧ 1 ≤ P.length ∧ i ≤ b ∧ Seg = P ++ Q ∧ Sorted cmB2 P S ∧ IsB g w (A ++ S ++ (Q ++ D)) wr) (fun v8 _ => b - (intOf v8).toNat)
    case atStart =>
      refine ⟨a + 1, [x0], rest, [x0], by go_num, rfl, Nat.le_refl _, ?_, HS.out, Sorted.one x0, ?_⟩
      · have := HBq.out; have := HA.out; rw [HS.out] at *; simp at *; omega
      · have := I0.out
        rw [HS.out] at this
        simpa using this
    case round =>
      obtain ⟨i, P, Q, S, rfl, hi, hP, hib, hPQ, hS, I⟩ := hrel
      have HI := Lib.hid hi
      have HPQ := Lib.hid hPQ
      have HSo := Lib.hid hS
      have J := Lib.hid I
      clear hi hPQ hS
      by_cases hlt : i < b
      · obtain ⟨x, Q', hQ⟩ : ∃ x Q', Q = x :: Q' := by
          cases Q with
          | nil =>
            have h1 := HBq.out
            have h2 := HI.out
            have h3 := HA.out
            rw [HPQ.out] at h1
            simp at h1
            omega
          | cons x Q' => exact ⟨x, Q', rfl⟩
        have HQ := Lib.hid hQ
        have hSl : S.length = P.length := HSo.out.perm.length_eq
        have HSl := Lib.hid hSl
        clear I hSl hQ
        go_wp2_with fail
        go_loopw [9] (fun v9 wr => ∃ (jj : Nat) (S1 S2 : List (B2 × Nat)), v9 = .int .i64 jj ∧ jj = a + S1.length ∧ jj ≤ i ∧ S = S1 ++ S2 ∧ (∀ y ∈ S2, cmB2 x.1 y.1 < 0) ∧ IsB g w (A ++ (S1 ++ x :: S2) ++ (Q' ++ D)) wr) (fun v9 _ => (intOf v9).toNat)
        case atStart =>
          refine ⟨i, S, [], rfl, by rw [HI.out, HSl.out], Nat.le_refl _, by simp, by simp, ?_⟩
          have := J.out
          rw [HQ.out] at this
          simpa using this
        case round =>
          clear J
          obtain ⟨jj, S1, S2, rfl, hj, hji, hSS, hall, I⟩ := hrel
          have HJ := Lib.hid hj
          have HSS := Lib.hid hSS
          have HAll := Lib.hid hall
          have J := Lib.hid I
          clear hj hSS hall
          by_cases hgt : a < jj
          · obtain ⟨S3, y, hS3⟩ : ∃ S3 y, S1 = S3 ++ [y] := by
              rcases List.eq_nil_or_concat S1 with h | ⟨S3, y, h⟩
              · have := HJ.out; rw [h] at this; simp at this; omega
              · exact ⟨S3, y, by rw [h, List.concat_eq_append]⟩
            have hA := HA.out
            have hj1 : jj = A.length + (S3.length + 1) := by rw [HJ.out, hS3]; simp; omega
            have hx : (A ++ (S1 ++ x :: S2) ++ (Q' ++ D))[jj]? = some x := by
              rw [hS3, hj1]; simp
            have hy : (A ++ (S1 ++ x :: S2) ++ (Q' ++ D))[jj - 1]? = some y := by
              rw [hS3, hj1]; simp
            have hxm : x ∈ Seg := by rw [HPQ.out, HQ.out]; simp
            have hym : y ∈ Seg := by
              rw [HPQ.out]
              exact List.mem_append_left _ (HSo.out.perm.subset (by rw [HSS.out, hS3]; simp))
            have p0 : wr.cell? ⟨g, jj * 2, none⟩ = some (.string x.1.1) := I.row.cell hx 0 _ rfl
            have p1 : wr.cell? ⟨g, jj * 2 + 1, none⟩ = some (.string x.1.2) := I.row.cell hx 1 _ rfl
            have r0 : wr.cell? ⟨g, (jj - 1) * 2, none⟩ = some (.string y.1.1) := I.row.cell hy 0 _ rfl
            have r1 : wr.cell? ⟨g, (jj - 1) * 2 + 1, none⟩ = some (.string y.1.2) := I.row.cell hy 1 _ rfl
            have P0 : ∀ k : BW wr, k.val.cell? ⟨g, jj * 2, none⟩ = some (.string x.1.1) := fun k => k.cell p0
            have P1 : ∀ k : BW wr, k.val.cell? ⟨g, jj * 2 + 1, none⟩ = some (.string x.1.2) := fun k => k.cell p1
            have R0 : ∀ k : BW wr, k.val.cell? ⟨g, (jj - 1) * 2, none⟩ = some (.string y.1.1) := fun k => k.cell r0
            have R1 : ∀ k : BW wr, k.val.cell? ⟨g, (jj - 1) * 2 + 1, none⟩ = some (.string y.1.2) := fun k => k.cell r1
            have hjn : jj < n := by omega
            have i0 : (0 : Int) ≤ (jj : Int) := by omega
            have i1 : (jj : Int) < (n : Int) := by omega
            have i2 : (0 : Int) ≤ (jj : Int) - 1 := by omega
            have i3 : (jj : Int) - 1 < (n : Int) := by omega
            have W1 : IntKind.i64.wrap ((jj : Int) - 1) = (jj : Int) - 1 := wrap_i64' (by omega) (by omega)
            have W2 : ((jj : Int) - 1).toNat = jj - 1 := by omega
            have K1 : Hid (∀ k : BW wr, Calls Tryz.prog 69 #[aggB x, aggB y] k.val fun e w'' => e = .returned (.int .i64 (cmB2 x.1 y.1)) ∧ ∃ k : BW wr, w'' = k.val) := fun k =>
              Calls.bw (HC.out x y hxm hym k.val (I.but.step k.below))
            have HX := Lib.hid hx
            have HY := Lib.hid hy
            have HS3 := Lib.hid hS3
            have HJ1 := Lib.hid hj1
            clear p0 r0 p1 r1 hx hy hxm hym I hS3 hj1 hA
            go_upto_region 4 with fail
            refine wp_region_bw (by kernel_rfl) (by kernel_rfl) ?_
            repeat (go_big_quiet_step (with_reducible exact K1.out _))
            refine wpQuiet_nil ?_
            rintro _ ⟨kw, rfl⟩
            have J2 := Lib.hid (J.out.step kw.below)
            clear P0 R0 P1 R1 K1 W1 W2 i0 i1 i2 i3
            generalize kw.val = w2 at *
            by_cases hc : cmB2 x.1 y.1 < 0
            · have p0 : w2.cell? ⟨g, jj * 2, none⟩ = some (.string x.1.1) := J2.out.row.cell HX.out 0 _ rfl
              have p1 : w2.cell? ⟨g, jj * 2 + 1, none⟩ = some (.string x.1.2) := J2.out.row.cell HX.out 1 _ rfl
              have r0 : w2.cell? ⟨g, (jj - 1) * 2, none⟩ = some (.string y.1.1) := J2.out.row.cell HY.out 0 _ rfl
              have r1 : w2.cell? ⟨g, (jj - 1) * 2 + 1, none⟩ = some (.string y.1.2) := J2.out.row.cell HY.out 1 _ rfl
              have z := SRowB.frozen J2.out.row
              go_upto_region 6 with fail
              go_region
              all_goals
                clear p0 r0 p1 r1 z
                go_wp2_with fail
                refine ⟨⟨jj - 1, S3, y :: S2, by rw [show ((jj - 1 : Nat) : Int) = (jj : Int) - 1 by omega], by rw [HJ1.out, HA.out]; omega, by omega, by rw [HSS.out, HS3.out]; simp, ?_, ?_⟩, by simp [intOf]; omega⟩
                · intro q hq
                  rcases List.mem_cons.1 hq with rfl | hq
                  · exact hc
                  · exact HAll.out q hq
                · have hl : jj < (A ++ (S1 ++ x :: S2) ++ (Q' ++ D)).length := (List.getElem?_eq_some_iff.1 HX.out).1
                  have r1 := J2.out.swap hl x y
                  rw [HS3.out, HJ1.out, swap_list, ← HJ1.out] at r1
                  exact r1
            · have HD : Hid (Sorted cmB2 (P ++ [x]) (S1 ++ x :: S2)) := by
                refine Sorted.insert HO.out (by rw [← HSS.out]; exact HSo.out) (fun y hy => ?_) HAll.out (fun q hq => ?_)
                · have h := HT.out
                  rw [HPQ.out, HQ.out] at h
                  exact (List.pairwise_append.1 h).2.2 y hy x (by simp)
                · rw [HS3.out] at hq
                  simp at hq
                  subst hq
                  exact hc
              go_wp2_with fail
              go_roundw
              case rel => exact ⟨i + 1, P ++ [x], Q', S1 ++ x :: S2, by go_num, by rw [HI.out]; simp; omega, by simp, by omega, by rw [HPQ.out, HQ.out]; simp, HD.out, J2.out⟩
              case measure => simp [intOf]; omega
          · have HN1 : Hid (S1 = []) := List.eq_nil_of_length_eq_zero (by have := HJ.out; omega)
            have HD : Hid (Sorted cmB2 (P ++ [x]) (S1 ++ x :: S2)) := by
              refine Sorted.insert HO.out (by rw [← HSS.out]; exact HSo.out) (fun y hy => ?_) HAll.out (fun q hq => ?_)
              · have h := HT.out
                rw [HPQ.out, HQ.out] at h
                exact (List.pairwise_append.1 h).2.2 y hy x (by simp)
              · rw [HN1.out] at hq
                simp at hq
            clear I
            have hgt' : decide ((a : Int) < (jj : Int)) = false := decide_eq_false (by omega)
            go_upto_region 4 with fail
            go_quiet (fail)
            go_wp2_with fail
            go_roundw
            case rel => exact ⟨i + 1, P ++ [x], Q', S1 ++ x :: S2, by go_num, by rw [HI.out]; simp; omega, by simp, by omega, by rw [HPQ.out, HQ.out]; simp, HD.out, J.out.step (Below.drewN (Below.refl _ _) _)⟩
            case measure => simp [intOf]; omega
      · have HF : Hid (Q = []) := by
          have h1 := HBq.out
          have h2 := HI.out
          have h3 := HA.out
          rw [HPQ.out] at h1
          simp at h1
          exact List.eq_nil_of_length_eq_zero (by omega)
        clear I
        go_wp2_with fail
        go_end0
        refine ⟨rfl, S, ?_, ?_⟩
        · have := HSo.out; rw [HPQ.out, HF.out, List.append_nil]; exact this
        · have := J.out; rw [HF.out, List.nil_append] at this; exact this

end Go.Proofs.YtfkapannahcjiaaGreatDoor



/- The library's swapRange and rotate at one element type. (Printed by gen_sort2.py B.) -/
namespace Go.Proofs.YtfkapannahcjiaaGreatDoor
open Go.RowKit

theorem IsB.swap2 {g : Nat} {w w2 : World} {L : List (B2 × Nat)} (h : IsB g w L w2) {p q : Nat} (hp : p < L.length) (hq : q < L.length) (x y : B2 × Nat) : IsB g w ((L.set p y).set q x) ((((w2.setCell ⟨g, p * 2, none⟩ (.string y.1.1)).setCell ⟨g, p * 2 + 1, none⟩ (.string y.1.2)).setCell ⟨g, q * 2, none⟩ (.string x.1.1)).setCell ⟨g, q * 2 + 1, none⟩ (.string x.1.2)).drew :=
  ⟨SRowB.drew ((h.row.put hp y).put (j := q) (by rw [List.length_set]; exact hq) x), But.step ((((h.but.set (p := ⟨g, p * 2, none⟩) rfl (.string y.1.1)).set (p := ⟨g, p * 2 + 1, none⟩) rfl (.string y.1.2)).set (p := ⟨g, q * 2, none⟩) rfl (.string x.1.1)).set (p := ⟨g, q * 2 + 1, none⟩) rfl (.string x.1.2)) ((Below.refl _ _).drew)⟩
def RowDoneB (g : Nat) (w : World) (L : List (B2 × Nat)) (e : Ending) (w' : World) : Prop := e = .returned (.tuple #[]) ∧ IsB g w L w'

set_option maxRecDepth 100000 in
set_option maxHeartbeats 4000000 in
theorem swapRangeB_any (A U M V D : List (B2 × Nat)) (g n c a b k : Nat) (aI bI kI : Int) (fv : Value) (w : World) (hr : SRowB w g (A ++ U ++ M ++ V ++ D)) (hn : n = (A ++ U ++ M ++ V ++ D).length)
    (ha : a = A.length) (hb : b = A.length + U.length + M.length) (hk : k = U.length) (hkv : k = V.length) (haI : aI = a) (hbI : bI = b) (hkI : kI = k) (hz : n * 32 ≤ reach) :
    Calls Tryz.prog 209 #[.slice (some ⟨g, 0, none⟩) n c, .int .i64 aI, .int .i64 bI, .int .i64 kI, fv] w (RowDoneB g w (A ++ V ++ M ++ U ++ D)) := by
  subst haI hbI hkI
  unfold reach at hz
  have hbn : b + k ≤ n := by rw [hn]; simp; omega
  have hab : a + k ≤ b := by omega
  have HA := Lib.hid ha
  have HBq := Lib.hid hb
  have HK := Lib.hid hk
  have HKV := Lib.hid hkv
  have HN := Lib.hid hn
  have I0 : Hid (IsB g w (A ++ U ++ M ++ V ++ D) w) := Lib.hid ⟨hr, But.refl⟩
  clear hr hn ha hb hk hkv
  go_enter Tryz.func209, Tryz.ntmps209
  go_wp2_with fail
  go_loopw [10] (fun v10 wr => ∃ (i : Nat) (U1 U2 V1 V2 : List (B2 × Nat)), v10 = .int .i64 i ∧ i ≤ k ∧ i = U1.length ∧ i = V1.length ∧ U = U1 ++ U2 ∧ V = V1 ++ V2 ∧ IsB g w (A ++ (V1 ++ U2) ++ M ++ (U1 ++ V2) ++ D) wr) (fun v10 _ => k - (intOf v10).toNat)
  case atStart => exact ⟨0, [], U, [], V, rfl, Nat.zero_le _, rfl, rfl, rfl, rfl, I0.out⟩
  case round =>
    obtain ⟨i, U1, U2, V1, V2, rfl, hik, hU1, hV1, hU, hV, I⟩ := hrel
    have HU1 := Lib.hid hU1
    have HV1 := Lib.hid hV1
    have HU := Lib.hid hU
    have HV := Lib.hid hV
    have J := Lib.hid I
    by_cases hlt : i < k
    · obtain ⟨x, U3, hx⟩ : ∃ x U3, U2 = x :: U3 := by
        cases U2 with
        | nil => have h1 := HK.out; rw [hU] at h1; simp at h1; omega
        | cons x U3 => exact ⟨x, U3, rfl⟩
      obtain ⟨y, V3, hy⟩ : ∃ y V3, V2 = y :: V3 := by
        cases V2 with
        | nil => have h1 := HKV.out; rw [hV] at h1; simp at h1; omega
        | cons y V3 => exact ⟨y, V3, rfl⟩
      subst hx hy
      have hp : a + i = A.length + V1.length := by rw [HA.out, ← hV1]
      have hq : b + i = A.length + (V1.length + (U3.length + 1)) + M.length + U1.length := by
        have h1 := HBq.out
        rw [hU] at h1
        simp at h1
        omega
      have HX : Hid ((A ++ (V1 ++ x :: U3) ++ M ++ (U1 ++ y :: V3) ++ D)[a + i]? = some x) := by rw [Hid, hp]; exact swap2_x A V1 U3 M U1 V3 D x y
      have HY : Hid ((A ++ (V1 ++ x :: U3) ++ M ++ (U1 ++ y :: V3) ++ D)[b + i]? = some y) := by rw [Hid, hq]; exact swap2_y A V1 U3 M U1 V3 D x y
      have HSw : Hid (((A ++ (V1 ++ x :: U3) ++ M ++ (U1 ++ y :: V3) ++ D).set (a + i) y).set (b + i) x = A ++ ((V1 ++ [y]) ++ U3) ++ M ++ ((U1 ++ [x]) ++ V3) ++ D) := by
        rw [Hid, hp, hq]
        exact swap2_list A V1 U3 M U1 V3 D x y
      have p0 : wr.cell? ⟨g, (a + i) * 2, none⟩ = some (.string x.1.1) := J.out.row.cell HX.out 0 _ rfl
      have p1 : wr.cell? ⟨g, (a + i) * 2 + 1, none⟩ = some (.string x.1.2) := J.out.row.cell HX.out 1 _ rfl
      have r0 : wr.cell? ⟨g, (b + i) * 2, none⟩ = some (.string y.1.1) := J.out.row.cell HY.out 0 _ rfl
      have r1 : wr.cell? ⟨g, (b + i) * 2 + 1, none⟩ = some (.string y.1.2) := J.out.row.cell HY.out 1 _ rfl
      have z := SRowB.frozen J.out.row
      clear hU1 hV1 hU hV I hp hq
      go_upto_region 3 with fail
      go_region
      all_goals
        clear p0 r0 p1 r1 z
        go_wp2_with fail
        refine ⟨⟨i + 1, U1 ++ [x], U3, V1 ++ [y], V3, by go_num, by omega, by rw [HU1.out]; simp, by rw [HV1.out]; simp, by rw [HU.out]; simp, by rw [HV.out]; simp, ?_⟩, by simp [intOf]; omega⟩
        have r1 := J.out.swap2 (List.getElem?_eq_some_iff.1 HX.out).1 (List.getElem?_eq_some_iff.1 HY.out).1 x y
        rw [HSw.out] at r1
        exact r1
    · have e1 : U2 = [] := List.eq_nil_of_length_eq_zero (by have h1 := HK.out; rw [hU] at h1; simp at h1; omega)
      have e2 : V2 = [] := List.eq_nil_of_length_eq_zero (by have h1 := HKV.out; rw [hV] at h1; simp at h1; omega)
      have HF : Hid (IsB g w (A ++ V ++ M ++ U ++ D) wr) := by
        rw [Hid, hU, hV, e1, e2]
        simp only [List.append_nil]
        rw [e1, e2] at I
        simp only [List.append_nil] at I
        exact I
      clear hU1 hV1 hU hV I e1 e2
      go_wp2_with fail
      go_end0
      exact ⟨rfl, HF.out⟩

theorem IsB.then {g : Nat} {w w1 w2 : World} {L L' : List (B2 × Nat)} (h : IsB g w L w1) (h' : IsB g w1 L' w2) : IsB g w L' w2 := ⟨h'.row, h.but.trans h'.but⟩

set_option maxRecDepth 100000 in
set_option maxHeartbeats 4000000 in
theorem rotateB_any (A P Q D : List (B2 × Nat)) (g n c a m b : Nat) (aI mI bI : Int) (fv : Value) (w : World) (hr : SRowB w g (A ++ P ++ Q ++ D)) (hn : n = (A ++ P ++ Q ++ D).length)
    (ha : a = A.length) (hm : m = A.length + P.length) (hb : b = A.length + P.length + Q.length) (hP : 1 ≤ P.length) (hQ : 1 ≤ Q.length) (haI : aI = a) (hmI : mI = m) (hbI : bI = b) (hz : n * 32 ≤ reach) :
    Calls Tryz.prog 181 #[.slice (some ⟨g, 0, none⟩) n c, .int .i64 aI, .int .i64 mI, .int .i64 bI, fv] w (RowDoneB g w (A ++ Q ++ P ++ D)) := by
  subst haI hmI hbI
  have HZ := Lib.hid hz
  unfold reach at hz
  have ham : a ≤ m := by omega
  have hmb : m ≤ b := by omega
  have hbn : b ≤ n := by rw [hn]; simp; omega
  have HN := Lib.hid hn
  have I0 : Hid (IsB g w (A ++ P ++ Q ++ D) w) := Lib.hid ⟨hr, But.refl⟩
  have HP : Hid (m - a = P.length) := by unfold Hid; omega
  have HQ : Hid (b - m = Q.length) := by unfold Hid; omega
  have HM : Hid (A.length + P.length = m) := hm.symm
  have hi1 : 1 ≤ m - a := by omega
  have hj1 : 1 ≤ b - m := by omega
  clear hr hn ha hm hb hP hQ
  go_enter Tryz.func181, Tryz.ntmps181
  go_wp2_with fail
  go_loopw [10, 11] (fun v10 v11 wr => ∃ (i j : Nat) (A' U V D' : List (B2 × Nat)), v10 = .int .i64 i ∧ v11 = .int .i64 j ∧ i = U.length ∧ j = V.length ∧ 1 ≤ i ∧ 1 ≤ j ∧ A'.length + i = m ∧ n = (A' ++ U ++ V ++ D').length ∧ A' ++ V ++ U ++ D' = A ++ Q ++ P ++ D ∧ IsB g w (A' ++ U ++ V ++ D') wr) (fun v10 v11 _ => (intOf v10).toNat + (intOf v11).toNat)
  case atStart => exact ⟨m - a, b - m, A, P, Q, D, by go_num, by go_num, HP.out, HQ.out, hi1, hj1, by rw [HP.out]; exact HM.out, HN.out, rfl, I0.out⟩
  case round =>
    obtain ⟨i, j, A', U, V, D', rfl, rfl, hU, hV, hi, hj, hm', hn', ht, I⟩ := hrel
    have HU := Lib.hid hU
    have HV := Lib.hid hV
    have HM' := Lib.hid hm'
    have HN' := Lib.hid hn'
    have HTg := Lib.hid ht
    have J := Lib.hid I
    have him : i ≤ m := by omega
    have hjn : m + j ≤ n := by rw [hn']; simp; omega
    clear hU hV hn' ht I hm'
    cases hne : ((i : Int) != (j : Int))
    · have hij : i = j := by simp at hne; omega
      have HR : Hid (SRowB wr g (A' ++ U ++ [] ++ V ++ D')) := by rw [Hid, List.append_nil]; exact J.out.row
      have HN2 : Hid (n = (A' ++ U ++ [] ++ V ++ D').length) := by rw [Hid, List.append_nil]; exact HN'.out
      have HIJ := Lib.hid hij
      clear hij
      go_wp2_with fail
      refine (swapRangeB_any A' U [] V D' g n c A'.length m i _ _ _ _ _ HR.out HN2.out rfl (by have := HU.out; have := HM'.out; simp; omega) HU.out (by rw [HIJ.out]; exact HV.out) (by have := HM'.out; omega) (by omega) rfl HZ.out).mono ?_
      rintro e w1 ⟨rfl, h1⟩
      have H1 := Lib.hid (J.out.then h1)
      clear h1
      go_wp2_with fail
      go_end0
      refine ⟨rfl, ?_⟩
      have := H1.out
      rw [List.append_nil, HTg.out] at this
      exact this
    · have hij : i ≠ j := by simp at hne; omega
      by_cases hgt : j < i
      · obtain ⟨U1, U2, hUU, hU1⟩ : ∃ U1 U2, U = U1 ++ U2 ∧ U1.length = j := ⟨U.take j, U.drop j, (List.take_append_drop j U).symm, by rw [List.length_take]; have := HU.out; omega⟩
        have hU2 : U2.length = i - j := by have h1 := HU.out; rw [hUU] at h1; simp at h1; omega
        have HR : Hid (SRowB wr g (A' ++ U1 ++ U2 ++ V ++ D')) := by have := J.out.row; rw [hUU] at this; rw [Hid]; simpa using this
        have HN2 : Hid (n = (A' ++ U1 ++ U2 ++ V ++ D').length) := by have := HN'.out; rw [hUU] at this; rw [Hid, this]; simp
        have HUU := Lib.hid hUU
        have HU1 := Lib.hid hU1
        have HU2 := Lib.hid hU2
        clear hUU hU1 hU2 hij
        go_wp2_with fail
        refine (swapRangeB_any A' U1 U2 V D' g n c A'.length m j _ _ _ _ _ HR.out HN2.out rfl (by have := HU1.out; have := HU2.out; have := HM'.out; omega) HU1.out.symm HV.out (by have := HM'.out; omega) rfl rfl HZ.out).mono ?_
        rintro e w1 ⟨rfl, h1⟩
        have H1 := Lib.hid (J.out.then h1)
        clear h1
        go_wp2_with fail
        go_roundw
        case rel =>
          refine ⟨i - j, j, A' ++ V, U2, U1, D', by go_num, rfl, HU2.out.symm, HU1.out.symm, by omega, hj, by rw [List.length_append, ← HV.out]; have := HM'.out; omega, ?_, ?_, ?_⟩
          · have := HN2.out; simp at this; simp; omega
          · rw [← HTg.out, HUU.out]; simp
          · exact H1.out
        case measure => simp [intOf]; omega
      · obtain ⟨V1, V2, hVV, hV1⟩ : ∃ V1 V2, V = V1 ++ V2 ∧ V1.length = j - i := ⟨V.take (j - i), V.drop (j - i), (List.take_append_drop (j - i) V).symm, by rw [List.length_take]; have := HV.out; omega⟩
        have hV2 : V2.length = i := by have h1 := HV.out; rw [hVV] at h1; simp at h1; omega
        have HR : Hid (SRowB wr g (A' ++ U ++ V1 ++ V2 ++ D')) := by have := J.out.row; rw [hVV] at this; rw [Hid]; simpa using this
        have HN2 : Hid (n = (A' ++ U ++ V1 ++ V2 ++ D').length) := by have := HN'.out; rw [hVV] at this; rw [Hid, this]; simp
        have HVV := Lib.hid hVV
        have HV1 := Lib.hid hV1
        have HV2 := Lib.hid hV2
        have hlt : i < j := by omega
        clear hVV hV1 hV2 hij
        go_wp2_with fail
        refine (swapRangeB_any A' U V1 V2 D' g n c A'.length (m + j - i) i _ _ _ _ _ HR.out HN2.out rfl (by have := HU.out; have := HV1.out; have := HM'.out; omega) HU.out HV2.out.symm (by have := HM'.out; omega) (by omega) rfl HZ.out).mono ?_
        rintro e w1 ⟨rfl, h1⟩
        have H1 := Lib.hid (J.out.then h1)
        clear h1
        go_wp2_with fail
        go_roundw
        case rel =>
          refine ⟨i, j - i, A', V2, V1, U ++ D', rfl, by go_num, HV2.out.symm, HV1.out.symm, hi, by omega, HM'.out, ?_, ?_, ?_⟩
          · have := HN2.out; simp at this; simp; omega
          · rw [← HTg.out, HVV.out]; simp
          · have := H1.out; simpa using this
        case measure => simp [intOf]; omega

end Go.Proofs.YtfkapannahcjiaaGreatDoor



/- The library's symMerge at one element type. (Printed by gen_sort3.py B.) -/
namespace Go.Proofs.YtfkapannahcjiaaGreatDoor
open Go.RowKit

section
variable {α : Type} {cm : α → α → Int}
end
/-- what symMerge leaves -/
def MergedB (g : Nat) (w : World) (A X Y D : List (B2 × Nat)) (e : Ending) (w' : World) : Prop := e = .returned (.tuple #[]) ∧ ∃ S, Sorted cmB2 (X ++ Y) S ∧ IsB g w (A ++ S ++ D) w'
structure HalvesB (A X Y D : List (B2 × Nat)) (g n : Nat) (w : World) : Prop where
  row : SRowB w g (A ++ X ++ Y ++ D)
  ln : n = (A ++ X ++ Y ++ D).length
  sz : n * 32 ≤ reach
  hX : X.Pairwise (RT cmB2)
  hY : Y.Pairwise (RT cmB2)
  hT : ∀ x ∈ X, ∀ y ∈ Y, x.2 < y.2
  cmp : CmpOkB g w (X ++ Y)

set_option maxRecDepth 100000 in
set_option maxHeartbeats 4000000 in
theorem sym1B (H : Ordered cmB2) (A : List (B2 × Nat)) (x : B2 × Nat) (Y D : List (B2 × Nat)) (g n c a m b : Nat) (aI mI bI : Int) (w : World) (h : HalvesB A [x] Y D g n w)
    (ha : a = A.length) (hm : m = a + 1) (hb : b = m + Y.length) (haI : aI = a) (hmI : mI = m) (hbI : bI = b) :
    Calls Tryz.prog 151 #[.slice (some ⟨g, 0, none⟩) n c, .int .i64 aI, .int .i64 mI, .int .i64 bI, .func (.func 69) #[] #[]] w (MergedB g w A [x] Y D) := by
  subst haI hmI hbI
  have hz := h.sz
  unfold reach at hz
  have hbn : b ≤ n := by have := h.ln; simp at this; omega
  have ham : ((m : Int) - (a : Int) == 1) = true := by simp; omega
  have HA := Lib.hid ha
  have HM := Lib.hid hm
  have hm1 : a < m := by omega
  have hmb : m ≤ b := by omega
  have HBq := Lib.hid hb
  have HH := Lib.hid h
  have HO := Lib.hid H
  have I0 : Hid (IsB g w (A ++ [x] ++ Y ++ D) w) := Lib.hid ⟨h.row, But.refl⟩
  clear h ha hm hb H
  go_enter Tryz.func151, Tryz.ntmps151
  go_wp2_with fail
  go_loopw [10, 11] (fun v10 v11 wr => ∃ (i j : Nat), v10 = .int .i64 i ∧ v11 = .int .i64 j ∧ m ≤ i ∧ i ≤ j ∧ j ≤ b ∧ (∀ (k : Nat) y, Y[k]? = some y → m + k < i → cmB2 y.1 x.1 < 0) ∧ (∀ (k : Nat) y, Y[k]? = some y → j ≤ m + k → ¬ cmB2 y.1 x.1 < 0) ∧ IsB g w (A ++ [x] ++ Y ++ D) wr) (fun v10 v11 _ => (intOf v11).toNat - (intOf v10).toNat)
  case atStart => exact ⟨m, b, rfl, rfl, Nat.le_refl _, hmb, Nat.le_refl _, fun k y _ hk => by omega, fun k y hy hk => by have := (List.getElem?_eq_some_iff.1 hy).1; have := HBq.out; omega, I0.out⟩
  case round =>
    obtain ⟨i, j, rfl, rfl, hmi, hij, hjb, hlo, hhi, I⟩ := hrel
    have HLo := Lib.hid hlo
    have HHi := Lib.hid hhi
    have J := Lib.hid I
    clear hlo hhi
    by_cases hlt : i < j
    · go_upto_region 5 with fail
      obtain ⟨h, hh⟩ : ∃ h : Nat, ((i : Int) + (j : Int)) / 2 = (h : Int) := ⟨(i + j) / 2, by omega⟩
      rw [hh]
      have h1 : i ≤ h := by omega
      have h2 : h < j := by omega
      clear hh
      obtain ⟨y, hyY⟩ : ∃ y, Y[h - m]? = some y := ⟨_, List.getElem?_eq_getElem (by have := HBq.out; omega)⟩
      have hy : (A ++ [x] ++ Y ++ D)[h]? = some y := by
        have hA := HA.out
        have hM := HM.out
        rw [List.append_assoc, List.getElem?_append_right (by simp; omega), List.getElem?_append_left (by have := (List.getElem?_eq_some_iff.1 hyY).1; simp; omega)]
        rw [show h - (A ++ [x]).length = h - m by simp; omega]
        exact hyY
      have hx : (A ++ [x] ++ Y ++ D)[a]? = some x := by
        rw [HA.out]
        simp
      have p0 : wr.cell? ⟨g, h * 2, none⟩ = some (.string y.1.1) := I.row.cell hy 0 _ rfl
      have p1 : wr.cell? ⟨g, h * 2 + 1, none⟩ = some (.string y.1.2) := I.row.cell hy 1 _ rfl
      have r0 : wr.cell? ⟨g, a * 2, none⟩ = some (.string x.1.1) := I.row.cell hx 0 _ rfl
      have r1 : wr.cell? ⟨g, a * 2 + 1, none⟩ = some (.string x.1.2) := I.row.cell hx 1 _ rfl
      have P0 : ∀ k : BW wr, k.val.cell? ⟨g, h * 2, none⟩ = some (.string y.1.1) := fun k => k.cell p0
      have P1 : ∀ k : BW wr, k.val.cell? ⟨g, h * 2 + 1, none⟩ = some (.string y.1.2) := fun k => k.cell p1
      have R0 : ∀ k : BW wr, k.val.cell? ⟨g, a * 2, none⟩ = some (.string x.1.1) := fun k => k.cell r0
      have R1 : ∀ k : BW wr, k.val.cell? ⟨g, a * 2 + 1, none⟩ = some (.string x.1.2) := fun k => k.cell r1
      have i0 : (0 : Int) ≤ (h : Int) := by omega
      have i1 : (h : Int) < (n : Int) := by omega
      have i2 : (0 : Int) ≤ (a : Int) := by omega
      have i3 : (a : Int) < (n : Int) := by omega
      have K1 : Hid (∀ k : BW wr, Calls Tryz.prog 69 #[aggB y, aggB x] k.val fun e w'' => e = .returned (.int .i64 (cmB2 y.1 x.1)) ∧ ∃ k : BW wr, w'' = k.val) := fun k =>
        Calls.bw (HH.out.cmp y x (by simp [List.mem_of_getElem? hyY]) (by simp) k.val (I.but.step k.below))
      have HY := Lib.hid hyY
      clear p0 p1 r0 r1 hx hy hyY I
      refine wp_region_bw (by kernel_rfl) (by kernel_rfl) ?_
      repeat (go_big_quiet_step (with_reducible exact K1.out _))
      refine wpQuiet_nil ?_
      rintro _ ⟨kw, rfl⟩
      have J2 := Lib.hid (J.out.step kw.below)
      clear P0 P1 R0 R1 K1 i0 i1 i2 i3
      generalize kw.val = w2 at *
      by_cases hc : cmB2 y.1 x.1 < 0
      · have HLo2 : Hid (∀ (k : Nat) z, Y[k]? = some z → m + k < h + 1 → cmB2 z.1 x.1 < 0) := fun k z hz hk => by
          by_cases e : k = h - m
          · subst e
            rw [HY.out] at hz
            cases hz
            exact hc
          · exact cm_le_lt HO.out (RT.le (pw_at HH.out.hY (by omega) hz HY.out)) hc
        go_wp2_with fail
        go_roundw
        case rel => exact ⟨h + 1, j, by go_num, rfl, by omega, by omega, hjb, HLo2.out, HHi.out, J2.out⟩
        case measure => simp [intOf]; omega
      · have HHi2 : Hid (∀ (k : Nat) z, Y[k]? = some z → h ≤ m + k → ¬ cmB2 z.1 x.1 < 0) := fun k z hz hk => by
          by_cases e : k = h - m
          · subst e
            rw [HY.out] at hz
            cases hz
            exact hc
          · have q1 := RT.le (pw_at HH.out.hY (by omega) HY.out hz)
            have q2 : cmB2 x.1 y.1 = -(cmB2 y.1 x.1) := HO.out.anti y.1 x.1
            have q3 : cmB2 x.1 z.1 ≤ 0 := cm_le_le HO.out (y := y.1) (show cmB2 x.1 y.1 ≤ 0 by omega) q1
            have q4 : cmB2 z.1 x.1 = -(cmB2 x.1 z.1) := HO.out.anti x.1 z.1
            omega
        go_wp2_with fail
        go_roundw
        case rel => exact ⟨i, h, rfl, rfl, hmi, h1, by omega, HLo.out, HHi2.out, J2.out⟩
        case measure => simp [intOf]; omega
    · obtain rfl : i = j := by omega
      obtain ⟨Y1, Y2, hYY, hY1⟩ : ∃ Y1 Y2, Y = Y1 ++ Y2 ∧ Y1.length = i - m := ⟨Y.take (i - m), Y.drop (i - m), (List.take_append_drop _ Y).symm, by rw [List.length_take]; have := HBq.out; omega⟩
      have HS : Hid (Sorted cmB2 ([x] ++ Y) (Y1 ++ x :: Y2)) := by
        have hp := HH.out.hY
        have ht := HH.out.hT x (by simp)
        rw [hYY] at hp ht
        rw [Hid, hYY]
        refine merge_one HO.out hp ht (fun y hy => ?_) (fun y hy => ?_)
        · obtain ⟨k, hk⟩ := List.getElem?_of_mem hy
          have hkl := (List.getElem?_eq_some_iff.1 hk).1
          exact HLo.out k y (by rw [hYY, List.getElem?_append_left hkl]; exact hk) (by omega)
        · obtain ⟨k, hk⟩ := List.getElem?_of_mem hy
          exact HHi.out (Y1.length + k) y (by rw [hYY, List.getElem?_append_right (by omega)]; simpa using hk) (by omega)
      have HYY := Lib.hid hYY
      have HY1 := Lib.hid hY1
      clear hYY hY1 I HLo HHi
      go_wp2_with fail
      go_loopw [13] (fun v13 wr => ∃ (k : Nat) (P1 P2 : List (B2 × Nat)), v13 = .int .i64 k ∧ k = a + P1.length ∧ Y1 = P1 ++ P2 ∧ IsB g w (A ++ (P1 ++ x :: P2) ++ (Y2 ++ D)) wr) (fun v13 _ => n - (intOf v13).toNat)
      case atStart =>
        refine ⟨a, [], Y1, rfl, rfl, rfl, ?_⟩
        have := J.out
        rw [HYY.out] at this
        simpa using this
      case round =>
        obtain ⟨k, P1, P2, rfl, hk, hPP, I⟩ := hrel
        have HPP := Lib.hid hPP
        have HK := Lib.hid hk
        have J2 := Lib.hid I
        have hkl : P1.length ≤ i - m := by rw [← HY1.out, hPP]; simp
        by_cases hlt2 : k < i - 1
        · obtain ⟨y, P3, hP3⟩ : ∃ y P3, P2 = y :: P3 := by
            cases P2 with
            | nil => have h1 := HY1.out; rw [hPP] at h1; simp at h1; have := HM.out; omega
            | cons y P3 => exact ⟨y, P3, rfl⟩
          subst hP3
          have hkA : k = A.length + P1.length := by rw [hk, HA.out]
          have HX : Hid ((A ++ (P1 ++ x :: y :: P3) ++ (Y2 ++ D))[k]? = some x) := by rw [Hid, hkA]; simp
          have HYk : Hid ((A ++ (P1 ++ x :: y :: P3) ++ (Y2 ++ D))[k + 1]? = some y) := by
            rw [Hid, hkA, show A ++ (P1 ++ x :: y :: P3) ++ (Y2 ++ D) = (A ++ P1 ++ [x]) ++ y :: (P3 ++ (Y2 ++ D)) by simp, List.getElem?_append_right (by simp; omega), show A.length + P1.length + 1 - (A ++ P1 ++ [x]).length = 0 by simp; omega]
            rfl
          have HSw : Hid (((A ++ (P1 ++ x :: y :: P3) ++ (Y2 ++ D)).set k y).set (k + 1) x = A ++ ((P1 ++ [y]) ++ x :: P3) ++ (Y2 ++ D)) := by
            rw [Hid, hkA]
            exact swap3_list A P1 P3 (Y2 ++ D) x y
          have hkn : k + 1 < n := by omega
          have p0 : wr.cell? ⟨g, k * 2, none⟩ = some (.string x.1.1) := J2.out.row.cell HX.out 0 _ rfl
          have p1 : wr.cell? ⟨g, k * 2 + 1, none⟩ = some (.string x.1.2) := J2.out.row.cell HX.out 1 _ rfl
          have r0 : wr.cell? ⟨g, (k + 1) * 2, none⟩ = some (.string y.1.1) := J2.out.row.cell HYk.out 0 _ rfl
          have r1 : wr.cell? ⟨g, (k + 1) * 2 + 1, none⟩ = some (.string y.1.2) := J2.out.row.cell HYk.out 1 _ rfl
          have z := SRowB.frozen J2.out.row
          clear hk hPP I hkA hkl
          go_upto_region 11 with fail
          go_region
          all_goals
            clear p0 p1 r0 r1 z
            go_wp2_with fail
            refine ⟨⟨k + 1, P1 ++ [y], P3, by go_num, by rw [HK.out]; simp; omega, by rw [HPP.out]; simp, ?_⟩, by simp [intOf]; omega⟩
            have r1 := J2.out.swap2 (List.getElem?_eq_some_iff.1 HX.out).1 (List.getElem?_eq_some_iff.1 HYk.out).1 x y
            rw [HSw.out] at r1
            exact r1
        · have HE : Hid (IsB g w (A ++ (Y1 ++ x :: Y2) ++ D) wr) := by
            have e : P2 = [] := List.eq_nil_of_length_eq_zero (by have h1 := HY1.out; rw [hPP] at h1; simp at h1; have := HM.out; omega)
            rw [e, List.append_nil] at hPP
            rw [e] at I
            rw [Hid, hPP]
            simpa using I
          clear hk hPP I hkl
          go_wp2_with fail
          go_end0
          exact ⟨rfl, _, HS.out, HE.out⟩

set_option maxRecDepth 100000 in
set_option maxHeartbeats 4000000 in
theorem sym2B (H : Ordered cmB2) (A X : List (B2 × Nat)) (y : B2 × Nat) (D : List (B2 × Nat)) (g n c a m b : Nat) (aI mI bI : Int) (w : World) (h : HalvesB A X [y] D g n w)
    (ha : a = A.length) (hm : m = a + X.length) (hb : b = m + 1) (hX2 : 2 ≤ X.length) (haI : aI = a) (hmI : mI = m) (hbI : bI = b) :
    Calls Tryz.prog 151 #[.slice (some ⟨g, 0, none⟩) n c, .int .i64 aI, .int .i64 mI, .int .i64 bI, .func (.func 69) #[] #[]] w (MergedB g w A X [y] D) := by
  subst haI hmI hbI
  have hz := h.sz
  unfold reach at hz
  have hbn : b ≤ n := by have := h.ln; simp at this; omega
  have ham : ((m : Int) - (a : Int) == 1) = false := by simp; omega
  have hbm : ((b : Int) - (m : Int) == 1) = true := by simp; omega
  have HA := Lib.hid ha
  have HM := Lib.hid hm
  have hm1 : a ≤ m := by omega
  have hmb : m < b := by omega
  have HH := Lib.hid h
  have HO := Lib.hid H
  have I0 : Hid (IsB g w (A ++ X ++ [y] ++ D) w) := Lib.hid ⟨h.row, But.refl⟩
  clear h ha hm hb H
  go_enter Tryz.func151, Tryz.ntmps151
  go_wp2_with fail
  go_loopw [14, 15] (fun v14 v15 wr => ∃ (i j : Nat), v14 = .int .i64 i ∧ v15 = .int .i64 j ∧ a ≤ i ∧ i ≤ j ∧ j ≤ m ∧ (∀ (k : Nat) x, X[k]? = some x → a + k < i → ¬ cmB2 y.1 x.1 < 0) ∧ (∀ (k : Nat) x, X[k]? = some x → j ≤ a + k → cmB2 y.1 x.1 < 0) ∧ IsB g w (A ++ X ++ [y] ++ D) wr) (fun v14 v15 _ => (intOf v15).toNat - (intOf v14).toNat)
  case atStart => exact ⟨a, m, rfl, rfl, Nat.le_refl _, hm1, Nat.le_refl _, fun k y _ hk => by omega, fun k y hy hk => by have := (List.getElem?_eq_some_iff.1 hy).1; have := HM.out; omega, I0.out⟩
  case round =>
    obtain ⟨i, j, rfl, rfl, hmi, hij, hjb, hlo, hhi, I⟩ := hrel
    have HLo := Lib.hid hlo
    have HHi := Lib.hid hhi
    have J := Lib.hid I
    clear hlo hhi
    by_cases hlt : i < j
    · go_upto_region 17 with fail
      obtain ⟨h, hh⟩ : ∃ h : Nat, ((i : Int) + (j : Int)) / 2 = (h : Int) := ⟨(i + j) / 2, by omega⟩
      rw [hh]
      have h1 : i ≤ h := by omega
      have h2 : h < j := by omega
      clear hh
      obtain ⟨x, hxX⟩ : ∃ x, X[h - a]? = some x := ⟨_, List.getElem?_eq_getElem (by have := HM.out; omega)⟩
      have hx : (A ++ X ++ [y] ++ D)[h]? = some x := by
        have hA := HA.out
        rw [List.append_assoc, List.append_assoc, List.getElem?_append_right (by omega), List.getElem?_append_left (by have := (List.getElem?_eq_some_iff.1 hxX).1; omega), ← hA]
        exact hxX
      have hy : (A ++ X ++ [y] ++ D)[m]? = some y := by
        have hA := HA.out
        have hM := HM.out
        rw [List.append_assoc, List.getElem?_append_right (by simp; omega), show m - (A ++ X).length = 0 by simp; omega]
        rfl
      have p0 : wr.cell? ⟨g, h * 2, none⟩ = some (.string x.1.1) := I.row.cell hx 0 _ rfl
      have p1 : wr.cell? ⟨g, h * 2 + 1, none⟩ = some (.string x.1.2) := I.row.cell hx 1 _ rfl
      have r0 : wr.cell? ⟨g, m * 2, none⟩ = some (.string y.1.1) := I.row.cell hy 0 _ rfl
      have r1 : wr.cell? ⟨g, m * 2 + 1, none⟩ = some (.string y.1.2) := I.row.cell hy 1 _ rfl
      have P0 : ∀ k : BW wr, k.val.cell? ⟨g, h * 2, none⟩ = some (.string x.1.1) := fun k => k.cell p0
      have P1 : ∀ k : BW wr, k.val.cell? ⟨g, h * 2 + 1, none⟩ = some (.string x.1.2) := fun k => k.cell p1
      have R0 : ∀ k : BW wr, k.val.cell? ⟨g, m * 2, none⟩ = some (.string y.1.1) := fun k => k.cell r0
      have R1 : ∀ k : BW wr, k.val.cell? ⟨g, m * 2 + 1, none⟩ = some (.string y.1.2) := fun k => k.cell r1
      have i0 : (0 : Int) ≤ (h : Int) := by omega
      have i1 : (h : Int) < (n : Int) := by omega
      have i2 : (0 : Int) ≤ (m : Int) := by omega
      have i3 : (m : Int) < (n : Int) := by omega
      have K1 : Hid (∀ k : BW wr, Calls Tryz.prog 69 #[aggB y, aggB x] k.val fun e w'' => e = .returned (.int .i64 (cmB2 y.1 x.1)) ∧ ∃ k : BW wr, w'' = k.val) := fun k =>
        Calls.bw (HH.out.cmp y x (by simp) (by simp [List.mem_of_getElem? hxX]) k.val (I.but.step k.below))
      have HY := Lib.hid hxX
      clear p0 p1 r0 r1 hx hy hxX I
      refine wp_region_bw (by kernel_rfl) (by kernel_rfl) ?_
      repeat (go_big_quiet_step (with_reducible exact K1.out _))
      refine wpQuiet_nil ?_
      rintro _ ⟨kw, rfl⟩
      have J2 := Lib.hid (J.out.step kw.below)
      clear P0 P1 R0 R1 K1 i0 i1 i2 i3
      generalize kw.val = w2 at *
      by_cases hc : cmB2 y.1 x.1 < 0
      · have HHi2 : Hid (∀ (k : Nat) z, X[k]? = some z → h ≤ a + k → cmB2 y.1 z.1 < 0) := fun k z hz hk => by
          by_cases e : k = h - a
          · subst e
            rw [HY.out] at hz
            cases hz
            exact hc
          · exact cm_lt_le HO.out (y := x.1) hc (RT.le (pw_at HH.out.hX (by omega) HY.out hz))
        have d4 : (!decide (cmB2 y.1 x.1 < 0)) = false := by rw [decide_eq_true hc]; rfl
        go_wp2_with fail
        all_goals first | (rename_i e; rw [d4] at e; contradiction) | skip
        go_roundw
        case rel => exact ⟨i, h, rfl, rfl, hmi, h1, by omega, HLo.out, HHi2.out, J2.out⟩
        case measure => simp [intOf]; omega
      · have HLo2 : Hid (∀ (k : Nat) z, X[k]? = some z → a + k < h + 1 → ¬ cmB2 y.1 z.1 < 0) := fun k z hz hk => by
          by_cases e : k = h - a
          · subst e
            rw [HY.out] at hz
            cases hz
            exact hc
          · have q1 := RT.le (pw_at HH.out.hX (by omega) hz HY.out)
            have q2 : cmB2 x.1 y.1 = -(cmB2 y.1 x.1) := HO.out.anti y.1 x.1
            have q3 : cmB2 z.1 y.1 ≤ 0 := cm_le_le HO.out (y := x.1) q1 (show cmB2 x.1 y.1 ≤ 0 by omega)
            have q4 : cmB2 y.1 z.1 = -(cmB2 z.1 y.1) := HO.out.anti z.1 y.1
            omega
        have d4 : (!decide (cmB2 y.1 x.1 < 0)) = true := by rw [decide_eq_false hc]; rfl
        go_wp2_with fail
        all_goals first | (rename_i e; rw [d4] at e; contradiction) | skip
        go_roundw
        case rel => exact ⟨h + 1, j, by go_num, rfl, by omega, by omega, hjb, HLo2.out, HHi.out, J2.out⟩
        case measure => simp [intOf]; omega
    · obtain rfl : i = j := by omega
      obtain ⟨X1, X2, hXX, hX1⟩ : ∃ X1 X2, X = X1 ++ X2 ∧ X1.length = i - a := ⟨X.take (i - a), X.drop (i - a), (List.take_append_drop _ X).symm, by rw [List.length_take]; have := HM.out; omega⟩
      have HS : Hid (Sorted cmB2 (X ++ [y]) (X1 ++ y :: X2)) := by
        have hp := HH.out.hX
        have ht : ∀ x ∈ X, x.2 < y.2 := fun x hx => HH.out.hT x hx y (by simp)
        rw [hXX] at hp ht
        rw [Hid, hXX]
        refine merge_last HO.out hp ht (fun x hx => ?_) (fun x hx => ?_)
        · obtain ⟨k, hk⟩ := List.getElem?_of_mem hx
          have hkl := (List.getElem?_eq_some_iff.1 hk).1
          exact HLo.out k x (by rw [hXX, List.getElem?_append_left hkl]; exact hk) (by omega)
        · obtain ⟨k, hk⟩ := List.getElem?_of_mem hx
          exact HHi.out (X1.length + k) x (by rw [hXX, List.getElem?_append_right (by omega)]; simpa using hk) (by omega)
      have HXX := Lib.hid hXX
      have HX1 := Lib.hid hX1
      have hX2l : X2.length = m - i := by have h1 := HM.out; rw [hXX] at h1; simp at h1; omega
      have HX2 := Lib.hid hX2l
      clear hXX hX1 I HLo HHi hX2l
      go_wp2_with fail
      go_loopw [17] (fun v17 wr => ∃ (k : Nat) (P1 P2 : List (B2 × Nat)), v17 = .int .i64 k ∧ k = i + P1.length ∧ X2 = P1 ++ P2 ∧ IsB g w ((A ++ X1) ++ (P1 ++ y :: P2) ++ D) wr) (fun v17 _ => (intOf v17).toNat)
      case atStart =>
        refine ⟨m, X2, [], rfl, by have := HX2.out; omega, by simp, ?_⟩
        have := J.out
        rw [HXX.out] at this
        simpa using this
      case round =>
        obtain ⟨k, P1, P2, rfl, hk, hPP, I⟩ := hrel
        have HPP := Lib.hid hPP
        have HK := Lib.hid hk
        have J2 := Lib.hid I
        have hkm : k ≤ m := by have h1 := HX2.out; rw [hPP] at h1; simp at h1; omega
        by_cases hlt2 : i < k
        · obtain ⟨P0, z, hP0⟩ : ∃ P0 z, P1 = P0 ++ [z] := by
            rcases List.eq_nil_or_concat P1 with h | ⟨P0, z, h⟩
            · rw [h] at hk; simp at hk; omega
            · exact ⟨P0, z, by rw [h, List.concat_eq_append]⟩
          have hkA : k = (A ++ X1).length + (P0.length + 1) := by rw [hk, hP0]; have := HX1.out; have := HA.out; simp; omega
          have HYk : Hid (((A ++ X1) ++ (P1 ++ y :: P2) ++ D)[k]? = some y) := by
            rw [Hid, hP0, hkA, show (A ++ X1) ++ ((P0 ++ [z]) ++ y :: P2) ++ D = (A ++ X1 ++ P0 ++ [z]) ++ y :: (P2 ++ D) by simp, List.getElem?_append_right (by simp; omega), show (A ++ X1).length + (P0.length + 1) - (A ++ X1 ++ P0 ++ [z]).length = 0 by simp; omega]
            rfl
          have HZk : Hid (((A ++ X1) ++ (P1 ++ y :: P2) ++ D)[k - 1]? = some z) := by
            rw [Hid, hP0, hkA, show (A ++ X1) ++ ((P0 ++ [z]) ++ y :: P2) ++ D = (A ++ X1 ++ P0) ++ z :: (y :: (P2 ++ D)) by simp, List.getElem?_append_right (by simp; omega), show (A ++ X1).length + (P0.length + 1) - 1 - (A ++ X1 ++ P0).length = 0 by simp; omega]
            rfl
          have HSw : Hid ((((A ++ X1) ++ (P1 ++ y :: P2) ++ D).set k z).set (k - 1) y = (A ++ X1) ++ (P0 ++ y :: z :: P2) ++ D) := by
            rw [Hid, hP0, hkA]
            exact swap_list (A ++ X1) P0 P2 D y z
          have HP0 := Lib.hid hP0
          have hk1 : 1 ≤ k := by omega
          have p0 : wr.cell? ⟨g, k * 2, none⟩ = some (.string y.1.1) := J2.out.row.cell HYk.out 0 _ rfl
          have p1 : wr.cell? ⟨g, k * 2 + 1, none⟩ = some (.string y.1.2) := J2.out.row.cell HYk.out 1 _ rfl
          have r0 : wr.cell? ⟨g, (k - 1) * 2, none⟩ = some (.string z.1.1) := J2.out.row.cell HZk.out 0 _ rfl
          have r1 : wr.cell? ⟨g, (k - 1) * 2 + 1, none⟩ = some (.string z.1.2) := J2.out.row.cell HZk.out 1 _ rfl
          have zf := SRowB.frozen J2.out.row
          clear hk hPP I hkA hP0
          go_upto_region 23 with fail
          go_region
          all_goals
            clear p0 p1 r0 r1 zf
            go_wp2_with fail
            refine ⟨⟨k - 1, P0, z :: P2, by rw [show ((k - 1 : Nat) : Int) = (k : Int) - 1 by omega], by have h1 := HK.out; rw [HP0.out] at h1; simp at h1; omega, by rw [HPP.out, HP0.out]; simp, ?_⟩, by simp [intOf]; omega⟩
            have r1 := J2.out.swap (List.getElem?_eq_some_iff.1 HYk.out).1 y z
            rw [HSw.out] at r1
            exact r1
        · have HE : Hid (IsB g w (A ++ (X1 ++ y :: X2) ++ D) wr) := by
            have e : P1 = [] := List.eq_nil_of_length_eq_zero (by omega)
            rw [e, List.nil_append] at hPP
            rw [e] at I
            rw [Hid, hPP]
            simpa using I
          clear hk hPP I
          go_wp2_with fail
          go_end0
          exact ⟨rfl, _, HS.out, HE.out⟩

end Go.Proofs.YtfkapannahcjiaaGreatDoor



/- The library's symMerge at one element type: every case. (Printed by gen_sort4.py B.) -/
namespace Go.Proofs.YtfkapannahcjiaaGreatDoor
open Go.RowKit

section
variable {α : Type} {cm : α → α → Int}
end

theorem CmpOkB.less {g : Nat} {w w1 : World} {U U' : List (B2 × Nat)} (h : CmpOkB g w U) (hb : But g w w1) (hs : ∀ x ∈ U', x ∈ U) : CmpOkB g w1 U' := fun x y hx hy wr hr => h x y (hs x hx) (hs y hy) wr (hb.trans hr)
theorem halfBL {A X1 X2 Y1 Y2 D : List (B2 × Nat)} {g n : Nat} {w w1 : World} (h : HalvesB A (X1 ++ X2) (Y1 ++ Y2) D g n w) (I : IsB g w (A ++ X1 ++ Y1 ++ X2 ++ Y2 ++ D) w1) : HalvesB A X1 Y1 (X2 ++ Y2 ++ D) g n w1 :=
  ⟨by have := I.row; simpa using this, by rw [h.ln]; simp; omega, h.sz, (List.pairwise_append.1 h.hX).1, (List.pairwise_append.1 h.hY).1, fun x hx y hy => h.hT x (by simp [hx]) y (by simp [hy]), h.cmp.less I.but (fun x hx => by rcases List.mem_append.1 hx with hx | hx <;> simp [hx])⟩
theorem halfBR {A X1 X2 Y1 Y2 D S1 : List (B2 × Nat)} {g n : Nat} {w w1 : World} (h : HalvesB A (X1 ++ X2) (Y1 ++ Y2) D g n w) (hl : S1.length = X1.length + Y1.length) (I : IsB g w (A ++ S1 ++ (X2 ++ Y2 ++ D)) w1) : HalvesB (A ++ S1) X2 Y2 D g n w1 :=
  ⟨by have := I.row; simpa using this, by rw [h.ln]; simp; omega, h.sz, (List.pairwise_append.1 h.hX).2.1, (List.pairwise_append.1 h.hY).2.1, fun x hx y hy => h.hT x (by simp [hx]) y (by simp [hy]), h.cmp.less I.but (fun x hx => by rcases List.mem_append.1 hx with hx | hx <;> simp [hx])⟩
def SymOkB (N : Nat) : Prop := ∀ (A X Y D : List (B2 × Nat)) (g n c a m b : Nat) (aI mI bI : Int) (w : World), HalvesB A X Y D g n w → a = A.length → m = a + X.length → b = m + Y.length → 1 ≤ X.length → 1 ≤ Y.length → X.length + Y.length < N → aI = a → mI = m → bI = b →
    Calls Tryz.prog 151 #[.slice (some ⟨g, 0, none⟩) n c, .int .i64 aI, .int .i64 mI, .int .i64 bI, .func (.func 69) #[] #[]] w (MergedB g w A X Y D)
def LoB (L : List (B2 × Nat)) (s0 nn t : Nat) : Prop := t = s0 ∨ ∃ x y, L[t - 1]? = some x ∧ L[nn - t]? = some y ∧ ¬ cmB2 y.1 x.1 < 0
def HiB (L : List (B2 × Nat)) (r0 nn t : Nat) : Prop := t = r0 ∨ ∃ x y, L[t]? = some x ∧ L[nn - 1 - t]? = some y ∧ cmB2 y.1 x.1 < 0

set_option maxRecDepth 100000 in
set_option maxHeartbeats 4000000 in
theorem sym3B (H : Ordered cmB2) (A X Y D : List (B2 × Nat)) (g n c a m b : Nat) (aI mI bI : Int) (w : World) (h : HalvesB A X Y D g n w)
    (ha : a = A.length) (hm : m = a + X.length) (hb : b = m + Y.length) (hX2 : 2 ≤ X.length) (hY2 : 2 ≤ Y.length) (ih : SymOkB (X.length + Y.length)) (haI : aI = a) (hmI : mI = m) (hbI : bI = b) :
    Calls Tryz.prog 151 #[.slice (some ⟨g, 0, none⟩) n c, .int .i64 aI, .int .i64 mI, .int .i64 bI, .func (.func 69) #[] #[]] w (MergedB g w A X Y D) := by
  subst haI hmI hbI
  have hz := h.sz
  unfold reach at hz
  have hbn : b ≤ n := by have := h.ln; simp at this; omega
  have ham : ((m : Int) - (a : Int) == 1) = false := by simp; omega
  have hbm : ((b : Int) - (m : Int) == 1) = false := by simp; omega
  have HA := Lib.hid ha
  have HM := Lib.hid hm
  have HB := Lib.hid hb
  have hm1 : a + 2 ≤ m := by omega
  have hmb : m + 2 ≤ b := by omega
  have HH := Lib.hid h
  have HO := Lib.hid H
  have HI := Lib.hid ih
  have I0 : Hid (IsB g w (A ++ X ++ Y ++ D) w) := Lib.hid ⟨h.row, But.refl⟩
  clear h ha hm hb H ih hX2 hY2
  go_enter Tryz.func151, Tryz.ntmps151
  go_upto_region 25 with fail
  obtain ⟨mid, hh⟩ : ∃ mid : Nat, ((a : Int) + (b : Int)) / 2 = (mid : Int) := ⟨(a + b) / 2, by omega⟩
  rw [hh]
  have HMid : Hid (mid = (a + b) / 2) := by unfold Hid; omega
  have hmid1 : a < mid := by omega
  have hmid2 : mid < b := by omega
  have hmid3 : 2 * mid ≤ a + b := by omega
  have hmid4 : a + b ≤ 2 * mid + 1 := by omega
  clear hh
  obtain ⟨s0, r0, hc⟩ : ∃ s0 r0 : Nat, (mid < m ∧ s0 = mid + m - b ∧ r0 = mid) ∨ (m ≤ mid ∧ s0 = a ∧ r0 = m) := by
    by_cases e : mid < m
    · exact ⟨_, _, .inl ⟨e, rfl, rfl⟩⟩
    · exact ⟨_, _, .inr ⟨by omega, rfl, rfl⟩⟩
  have HC := Lib.hid hc
  have hs1 : a ≤ s0 := by omega
  have hs2 : s0 ≤ r0 := by omega
  have hr1 : r0 ≤ m := by omega
  have hr2 : r0 ≤ mid := by omega
  have hs3 : mid + m ≤ b + s0 := by omega
  clear hc
  go_upto_region 26 with fail
  obtain ⟨p, hp⟩ : ∃ p : Nat, mid + m = p + 1 := ⟨mid + m - 1, by omega⟩
  have HP := Lib.hid hp
  have hp1 : p + 1 ≤ b + s0 := by omega
  have hp2 : m + r0 ≤ p + 1 := by omega
  rw [show (mid : Int) + (m : Int) = (p : Int) + 1 by omega]
  clear hp
  go_upto_if 140 with fail
  go_cut [20, 21] (fun s20 s21 wx => s20 = .int .i64 s0 ∧ s21 = .int .i64 r0 ∧ w = wx)
  case first => as_aux_lemma =>
    rcases HC.out with ⟨q1, q2, q3⟩ | ⟨q1, q2, q3⟩
    all_goals
      have Q2 := Lib.hid q2
      have Q3 := Lib.hid q3
      clear q2 q3
      go_wp2_with fail
      go_meet
      exact ⟨congrArg (Value.int .i64) (by have := Q2.out; have := HP.out; omega), congrArg (Value.int .i64) (by have := Q3.out; omega), rfl⟩
  case rest =>
    obtain ⟨rfl, rfl, rfl⟩ := hcut
    go_wp2_with fail
    go_loopw [20, 21] (fun v20 v21 wr => ∃ (i j : Nat), v20 = .int .i64 i ∧ v21 = .int .i64 j ∧ s0 ≤ i ∧ i ≤ j ∧ j ≤ r0 ∧ LoB (A ++ X ++ Y ++ D) s0 (p + 1) i ∧ HiB (A ++ X ++ Y ++ D) r0 (p + 1) j ∧ IsB g w (A ++ X ++ Y ++ D) wr) (fun v20 v21 _ => (intOf v21).toNat - (intOf v20).toNat)
    case atStart => exact ⟨s0, r0, rfl, rfl, Nat.le_refl _, hs2, Nat.le_refl _, .inl rfl, .inl rfl, I0.out⟩
    case round =>
      obtain ⟨i, j, rfl, rfl, hmi, hij, hjb, hlo, hhi, I⟩ := hrel
      have HLo := Lib.hid hlo
      have HHi := Lib.hid hhi
      have J := Lib.hid I
      clear hlo hhi
      by_cases hlt : i < j
      · as_aux_lemma =>
        go_upto_region 35 with fail
        obtain ⟨h, hh⟩ : ∃ h : Nat, ((i : Int) + (j : Int)) / 2 = (h : Int) := ⟨(i + j) / 2, by omega⟩
        rw [hh]
        have h1 : i ≤ h := by omega
        have h2 : h < j := by omega
        clear hh
        obtain ⟨x, hx, hxX⟩ : ∃ x, (A ++ X ++ Y ++ D)[h]? = some x ∧ x ∈ X := by
          have hA := HA.out
          have hM := HM.out
          rw [atX (by omega) (by omega)]
          exact ⟨_, List.getElem?_eq_getElem (by omega), List.getElem_mem _⟩
        obtain ⟨y, hy, hyY⟩ : ∃ y, (A ++ X ++ Y ++ D)[p - h]? = some y ∧ y ∈ Y := by
          have hA := HA.out
          have hM := HM.out
          have hB := HB.out
          rw [atY (by omega) (by omega)]
          exact ⟨_, List.getElem?_eq_getElem (by omega), List.getElem_mem _⟩
        have p0 : wr.cell? ⟨g, h * 2, none⟩ = some (.string x.1.1) := I.row.cell hx 0 _ rfl
        have p1 : wr.cell? ⟨g, h * 2 + 1, none⟩ = some (.string x.1.2) := I.row.cell hx 1 _ rfl
        have r0 : wr.cell? ⟨g, (p - h) * 2, none⟩ = some (.string y.1.1) := I.row.cell hy 0 _ rfl
        have r1 : wr.cell? ⟨g, (p - h) * 2 + 1, none⟩ = some (.string y.1.2) := I.row.cell hy 1 _ rfl
        have P0 : ∀ k : BW wr, k.val.cell? ⟨g, h * 2, none⟩ = some (.string x.1.1) := fun k => k.cell p0
        have P1 : ∀ k : BW wr, k.val.cell? ⟨g, h * 2 + 1, none⟩ = some (.string x.1.2) := fun k => k.cell p1
        have R0 : ∀ k : BW wr, k.val.cell? ⟨g, (p - h) * 2, none⟩ = some (.string y.1.1) := fun k => k.cell r0
        have R1 : ∀ k : BW wr, k.val.cell? ⟨g, (p - h) * 2 + 1, none⟩ = some (.string y.1.2) := fun k => k.cell r1
        have i0 : (0 : Int) ≤ (h : Int) := by omega
        have i1 : (h : Int) < (n : Int) := by omega
        have i2 : (0 : Int) ≤ (p : Int) - (h : Int) := by omega
        have i3 : (p : Int) - (h : Int) < (n : Int) := by omega
        have K1 : Hid (∀ k : BW wr, Calls Tryz.prog 69 #[aggB y, aggB x] k.val fun e w'' => e = .returned (.int .i64 (cmB2 y.1 x.1)) ∧ ∃ k : BW wr, w'' = k.val) := fun k =>
          Calls.bw (HH.out.cmp y x (by simp [hyY]) (by simp [hxX]) k.val (I.but.step k.below))
        have HX := Lib.hid hx
        have HY := Lib.hid hy
        clear p0 p1 r0 r1 hx hy hxX hyY I
        refine wp_region_bw (by as_aux_lemma => kernel_rfl) (by as_aux_lemma => kernel_rfl) ?_
        repeat (go_big_quiet_step (with_reducible exact K1.out _))
        refine wpQuiet_nil ?_
        rintro _ ⟨kw, rfl⟩
        have J2 := Lib.hid (J.out.step kw.below)
        clear P0 P1 R0 R1 K1 i0 i1 i2 i3
        generalize kw.val = w2 at *
        by_cases hc : cmB2 y.1 x.1 < 0
        · have HHi2 : Hid (HiB (A ++ X ++ Y ++ D) r0 (p + 1) h) := .inr ⟨x, y, HX.out, HY.out, hc⟩
          have d4 : (!decide (cmB2 y.1 x.1 < 0)) = false := by rw [decide_eq_true hc]; rfl
          go_wp2_with fail
          all_goals first | (rename_i e; rw [d4] at e; contradiction) | skip
          go_roundw
          case rel => exact ⟨i, h, rfl, rfl, hmi, h1, by omega, HLo.out, HHi2.out, J2.out⟩
          case measure => simp [intOf]; omega
        · have HLo2 : Hid (LoB (A ++ X ++ Y ++ D) s0 (p + 1) (h + 1)) := .inr ⟨x, y, HX.out, by rw [Nat.add_sub_add_right]; exact HY.out, hc⟩
          have d4 : (!decide (cmB2 y.1 x.1 < 0)) = true := by rw [decide_eq_false hc]; rfl
          go_wp2_with fail
          all_goals first | (rename_i e; rw [d4] at e; contradiction) | skip
          go_roundw
          case rel => exact ⟨h + 1, j, by go_num, rfl, by omega, by omega, hjb, HLo2.out, HHi.out, J2.out⟩
          case measure => simp [intOf]; omega
      · obtain rfl : i = j := by omega
        obtain ⟨X1, X2, Y1, Y2, hXX, hYY, l1, l2, l3, l4, h12, h21⟩ := sym_parts (D := D) HO.out HA.out HM.out HB.out HH.out.hX HH.out.hY HH.out.hT hmi hjb HMid.out HC.out (by rw [HP.out]; exact HLo.out) (by rw [HP.out]; exact HHi.out)
        have HS : Hid (∀ S1 S2, Sorted cmB2 (X1 ++ Y1) S1 → Sorted cmB2 (X2 ++ Y2) S2 → Sorted cmB2 (X ++ Y) (S1 ++ S2)) := fun S1 S2 q1 q2 => by
          have hp := HH.out.hX
          have hq := HH.out.hY
          rw [hXX] at hp ⊢
          rw [hYY] at hq ⊢
          exact split_sorted hp hq h12 h21 q1 q2
        have HH2 : Hid (HalvesB A (X1 ++ X2) (Y1 ++ Y2) D g n w) := by have := HH.out; rw [hXX, hYY] at this; exact this
        have HJ : Hid (IsB g w (A ++ X1 ++ X2 ++ Y1 ++ Y2 ++ D) wr) := by have := J.out; rw [hXX, hYY] at this; rw [Hid]; simpa using this
        have HL1 := Lib.hid l1
        have HL2 := Lib.hid l2
        have HL3 := Lib.hid l3
        have HL4 := Lib.hid l4
        have hsum : mid - a < X.length + Y.length := by have := HM.out; have := HB.out; omega
        have hsum2 : b - mid < X.length + Y.length := by have := HM.out; have := HB.out; omega
        clear hXX hYY l1 l2 l3 l4 h12 h21 I J HLo HHi
        go_upto_region 39 with fail
        obtain ⟨en, hen⟩ : ∃ en : Nat, (p : Int) + 1 - (i : Int) = (en : Int) := ⟨p + 1 - i, by omega⟩
        have HEn : Hid (en + i = mid + m) := by unfold Hid; have := HP.out; omega
        have hen1 : en ≤ b := by omega
        rw [hen]
        clear hen
        go_cut [185] (fun s wx => s = .bool (decide (i < m ∧ m < en)) ∧ wr = wx)
        case first => as_aux_lemma =>
          by_cases e1 : i < m <;> by_cases e2 : m < en
          all_goals
            go_wp2_with fail
            go_meet
            exact ⟨congrArg Value.bool (by simp [e1, e2]), rfl⟩
        case rest =>
          obtain ⟨rfl, rfl⟩ := hcut
          go_upto_if 185 with fail
          go_cut [] (fun wx => IsB g w (A ++ X1 ++ Y1 ++ X2 ++ Y2 ++ D) wx)
          case first => as_aux_lemma =>
            by_cases e : i < m ∧ m < en
            · have d : decide (i < m ∧ m < en) = true := decide_eq_true e
              rw [d]
              clear d
              go_wp2_with fail
              refine (rotateB_any (A ++ X1) X2 Y1 (Y2 ++ D) g n c i m en _ _ _ _ _ (by have := HJ.out.row; simpa using this) (by rw [HH2.out.ln]; simp) (by have := HA.out; have := HL1.out; simp; omega) (by have := HA.out; have := HL1.out; have := HL2.out; simp; omega) (by have := HA.out; have := HL1.out; have := HL2.out; have := HL3.out; have := HEn.out; simp; omega) (by have := HL2.out; omega) (by have := HL3.out; have := HEn.out; omega) rfl rfl rfl HH2.out.sz).mono ?_
              rintro e w1 ⟨rfl, h1⟩
              have H1 := Lib.hid (HJ.out.then h1)
              clear h1
              go_wp2_with fail
              go_meet
              have := H1.out
              simpa using this
            · have d : decide (i < m ∧ m < en) = false := decide_eq_false e
              rw [d]
              clear d
              go_wp2_with fail
              go_meet
              have h1 := HJ.out
              have q : X2 = [] ∨ Y1 = [] := by
                by_cases e1 : i < m
                · exact .inr (List.eq_nil_of_length_eq_zero (by have := HL3.out; have := HEn.out; omega))
                · exact .inl (List.eq_nil_of_length_eq_zero (by have := HL2.out; omega))
              rcases q with q | q
              · rw [q] at h1 ⊢; simpa using h1
              · rw [q] at h1 ⊢; simpa using h1
          case rest =>
            have HJ2 := Lib.hid hcut
            clear hcut
            go_upto_region 41 with fail
            go_cut [199] (fun s wx => s = .bool (decide (a < i ∧ i < mid)) ∧ wc = wx)
            case first => as_aux_lemma =>
              by_cases e1 : a < i <;> by_cases e2 : i < mid
              all_goals
                go_wp2_with fail
                go_meet
                exact ⟨congrArg Value.bool (by simp [e1, e2]), rfl⟩
            case rest =>
              obtain ⟨rfl, rfl⟩ := hcut
              go_upto_if 199 with fail
              go_cut [] (fun wx => ∃ S1, Sorted cmB2 (X1 ++ Y1) S1 ∧ IsB g w (A ++ S1 ++ (X2 ++ Y2 ++ D)) wx)
              case first => as_aux_lemma =>
                by_cases e : a < i ∧ i < mid
                · have d : decide (a < i ∧ i < mid) = true := decide_eq_true e
                  rw [d]
                  clear d
                  go_wp2_with fail
                  refine (HI.out A X1 Y1 (X2 ++ Y2 ++ D) g n c a i mid _ _ _ _ (halfBL HH2.out HJ2.out) HA.out (by have := HL1.out; omega) (by have := HL3.out; omega) (by have := HL1.out; omega) (by have := HL3.out; omega) (by have := HL1.out; have := HL3.out; omega) rfl rfl rfl).mono ?_
                  rintro e w1 ⟨rfl, S1, h1, h2⟩
                  have H1 := Lib.hid h1
                  have H2 := Lib.hid (HJ2.out.then h2)
                  clear h1 h2
                  go_wp2_with fail
                  go_meet
                  exact ⟨S1, H1.out, H2.out⟩
                · have d : decide (a < i ∧ i < mid) = false := decide_eq_false e
                  rw [d]
                  clear d
                  go_wp2_with fail
                  go_meet
                  have hh := halfBL HH2.out HJ2.out
                  refine ⟨X1 ++ Y1, sorted_self ?_, by have := HJ2.out; simpa using this⟩
                  have q : X1 = [] ∨ Y1 = [] := by
                    by_cases e1 : a < i
                    · exact .inr (List.eq_nil_of_length_eq_zero (by have := HL3.out; omega))
                    · exact .inl (List.eq_nil_of_length_eq_zero (by have := HL1.out; omega))
                  rcases q with q | q
                  · rw [q]; simpa using hh.hY
                  · rw [q]; simpa using hh.hX
              case rest =>
                obtain ⟨S1, hS1, I⟩ := hcut
                have HS1 := Lib.hid hS1
                have HJ3 := Lib.hid I
                have HLS : Hid (S1.length = X1.length + Y1.length) := by rw [Hid, hS1.1.length_eq]; simp
                clear hS1 I
                go_upto_region 43 with fail
                go_cut [213] (fun s wx => s = .bool (decide (mid < en ∧ en < b)) ∧ wc = wx)
                case first => as_aux_lemma =>
                  by_cases e1 : mid < en <;> by_cases e2 : en < b
                  all_goals
                    go_wp2_with fail
                    go_meet
                    exact ⟨congrArg Value.bool (by simp [e1, e2]), rfl⟩
                case rest =>
                  obtain ⟨rfl, rfl⟩ := hcut
                  by_cases e : mid < en ∧ en < b
                  · as_aux_lemma =>
                    have d : decide (mid < en ∧ en < b) = true := decide_eq_true e
                    rw [d]
                    clear d
                    go_wp2_with fail
                    refine (HI.out (A ++ S1) X2 Y2 D g n c mid en b _ _ _ _ (halfBR HH2.out HLS.out HJ3.out) (by have := HA.out; have := HLS.out; have := HL1.out; have := HL3.out; simp; omega) (by have := HL2.out; have := HEn.out; omega) (by have := HL4.out; have := HEn.out; omega) (by have := HL2.out; have := HEn.out; omega) (by have := HL4.out; have := HEn.out; omega) (by have := HL2.out; have := HL4.out; have := HEn.out; omega) rfl rfl rfl).mono ?_
                    rintro e w1 ⟨rfl, S2, h1, h2⟩
                    have H1 := Lib.hid h1
                    have H2 := Lib.hid (HJ3.out.then h2)
                    clear h1 h2
                    go_wp2_with fail
                    go_end0
                    exact ⟨rfl, S1 ++ S2, HS.out S1 S2 HS1.out H1.out, by have := H2.out; simpa using this⟩
                  · as_aux_lemma =>
                    have d : decide (mid < en ∧ en < b) = false := decide_eq_false e
                    rw [d]
                    clear d
                    go_wp2_with fail
                    go_end0
                    have hh := halfBR HH2.out HLS.out HJ3.out
                    refine ⟨rfl, S1 ++ (X2 ++ Y2), HS.out S1 _ HS1.out (sorted_self ?_), by have := HJ3.out; simpa using this⟩
                    have q : X2 = [] ∨ Y2 = [] := by
                      by_cases e1 : mid < en
                      · exact .inr (List.eq_nil_of_length_eq_zero (by have := HL4.out; have := HEn.out; omega))
                      · exact .inl (List.eq_nil_of_length_eq_zero (by have := HL2.out; have := HEn.out; omega))
                    rcases q with q | q
                    · rw [q]; simpa using hh.hY
                    · rw [q]; simpa using hh.hX

/-- the library's symMerge: two sorted runs become one -/
theorem symB_any (H : Ordered cmB2) (N : Nat) : SymOkB N := by
  induction N with
  | zero => exact fun A X Y D g n c a m b aI mI bI w h ha hm hb h1 h2 h3 => absurd h3 (by omega)
  | succ N ih =>
    intro A X Y D g n c a m b aI mI bI w h ha hm hb h1 h2 h3 haI hmI hbI
    by_cases e1 : X.length = 1
    · obtain ⟨x, rfl⟩ := List.length_eq_one_iff.1 e1
      exact sym1B H A x Y D g n c a m b aI mI bI w h ha (by simpa using hm) hb haI hmI hbI
    · by_cases e2 : Y.length = 1
      · obtain ⟨y, rfl⟩ := List.length_eq_one_iff.1 e2
        exact sym2B H A X y D g n c a m b aI mI bI w h ha hm (by simpa using hb) (by omega) haI hmI hbI
      · exact sym3B H A X Y D g n c a m b aI mI bI w h ha hm hb (by omega) (by omega) (fun A' X' Y' D' g' n' c' a' m' b' aI' mI' bI' w' q1 q2 q3 q4 q5 q6 q7 q8 q9 q10 => ih A' X' Y' D' g' n' c' a' m' b' aI' mI' bI' w' q1 q2 q3 q4 q5 q6 (by omega) q8 q9 q10) haI hmI hbI

end Go.Proofs.YtfkapannahcjiaaGreatDoor


