/- The walk of the law GeoTurns. -/
import Derived.Test.YtefolbfopjfbcaaGeoTurn0
import Derived.Test.YtefolbfopjfbcaaGeoShape
import Derived.Test.YtefolbfopjfbcaaGeoInsidesWalk
import Derived.Test.YtefolbfopjfbcaaKit3
namespace Go.Proofs.Ytefolbfopjfbcaa
open Go.RowKit

def flatP (ps : List (Int × Int)) : List Value := ps.flatMap fun p => [.int .i64 p.1, .int .i64 p.2]
theorem flatP_append (a b : List (Int × Int)) : flatP (a ++ b) = flatP a ++ flatP b := by simp [flatP]
theorem flatP_length (ps : List (Int × Int)) : (flatP ps).length = ps.length * 2 := by
  induction ps with
  | nil => rfl
  | cons p l ih =>
    have : flatP (p :: l) = [.int .i64 p.1, .int .i64 p.2] ++ flatP l := rfl
    rw [this, List.length_append, ih]
    simp
    omega
theorem flatP_at (ps : List (Int × Int)) : ∀ (i : Nat) (x y : Int), ps[i]? = some (x, y) → (flatP ps)[i * 2]? = some (.int .i64 x) ∧ (flatP ps)[i * 2 + 1]? = some (.int .i64 y) := by
  induction ps with
  | nil => intro i x y h; simp at h
  | cons p l ih =>
    intro i x y h
    have e : flatP (p :: l) = .int .i64 p.1 :: .int .i64 p.2 :: flatP l := rfl
    rw [e]
    cases i with
    | zero =>
      simp at h
      subst h
      simp
    | succ i =>
      have := ih i x y (by simpa using h)
      rw [show (i + 1) * 2 = i * 2 + 1 + 1 from by omega]
      simpa using this
theorem RdPts.of_own {w : World} {base : Nat} {t : TypeId} {v : Value} {n : Nat} {ps : List (Int × Int)} (h : w.ownsRow base t 2 v n (flatP ps)) (hl : ps.length = n) (hm : n ≤ maxLen) : ∃ A c, v = .slice A n c ∧ RdPts w A n ps := by
  rcases h.2 with ⟨rfl, rfl⟩ | ⟨g, cap, cur, rfl, _, hh, _⟩
  · exact ⟨none, 0, rfl, hl, hm, fun h => absurd h (by omega)⟩
  · refine ⟨_, _, rfl, hl, hm, fun _ => ⟨g, 0, rfl, ?_, fun i x y hi => ?_⟩⟩
    · rcases Nat.lt_or_ge g w.heap.size with hlt | hge
      · exact hlt
      · rw [Array.getElem?_eq_none hge] at hh; cases hh
    · obtain ⟨h1, h2⟩ := flatP_at ps i x y hi
      have c1 := World.ownsRow.cells h (g := g) rfl _ _ h1
      have c2 := World.ownsRow.cells h (g := g) rfl _ _ h2
      rw [addr_add] at c1 c2
      exact ⟨c1, by rw [Nat.add_assoc]; exact c2⟩

theorem info_point : (Try.prog.info? 27).map (fun i => (i.zero, i.size, i.bytes)) = some (some (.agg #[.int .i64 0, .int .i64 0]), 2, 16) := by kernel_rfl

theorem own_ne {w : World} {base : Nat} {e : TypeId} {size n : Nat} {v : Value} {xs : List Value} (h : w.ownsRow base e size v n xs) {g : Nat} (hg : g < base) : v.ownBlock ≠ some g := by
  rcases h.2 with ⟨rfl, _⟩ | ⟨g', cap, cur, rfl, hge, _⟩
  · simp [Value.ownBlock]
  · simp [Value.ownBlock]
    omega

theorem own_form {w : World} {base : Nat} {e : TypeId} {size n : Nat} {v : Value} {xs : List Value} (h : w.ownsRow base e size v n xs) (hn : 0 < n) : ∃ g cap, v = .slice (some ⟨g, 0, none⟩) n cap := by
  rcases h.2 with ⟨_, h'⟩ | ⟨g, cap, cur, hv, _⟩
  · omega
  · exact ⟨g, cap, hv⟩
/-- a cell of an old block behind an append that wrote another one -/
theorem grown_cell {w w' : World} {o : Obj} {row : Option Nat} {g j : Nat} (hg : (w.alloc o).drew.grownBy w' row) (hlt : g < w.heap.size) (hne : row ≠ some g) : w'.cell? ⟨g, j, none⟩ = w.cell? ⟨g, j, none⟩ :=
  World.cell?_of_block (a := ⟨g, j, none⟩) ((hg.block g (by show g < (w.alloc o).heap.size; simp; omega) (fun e => hne e.symm)).trans (Below.heap_alloc w o g hlt))
theorem grown_frozen {w w' : World} {o : Obj} {row : Option Nat} {g j : Nat} (hg : (w.alloc o).drew.grownBy w' row) (hlt : g < w.heap.size) (hne : row ≠ some g) : w'.frozen? ⟨g, j, none⟩ = w.frozen? ⟨g, j, none⟩ :=
  World.frozen?_of_block (a := ⟨g, j, none⟩) ((hg.block g (by show g < (w.alloc o).heap.size; simp; omega) (fun e => hne e.symm)).trans (Below.heap_alloc w o g hlt))

structure TuInv (w : World) (k : Int) (A : Option Addr) (n c : Nat) (x y : Int) (g8 : Nat) (v : Value) (pts : List (Int × Int)) (i : Nat) (wr : World) : Prop where
  b0 : Blk wr w.heap.size 35 #[.int .i64 k, .slice A n c, .int .i64 0]
  b1 : Blk wr (w.heap.size + 1) 27 #[.int .i64 x, .int .i64 y]
  b2 : Blk wr g8 35 #[.int .i64 k, v, .int .i64 0]
  hg : w.heap.size + 1 < g8
  own : wr.ownsRow (g8 + 1) 27 2 v i (flatP pts)
  bel : Below w.heap.size w wr

structure Tu2 (w : World) (k : Int) (A : Option Addr) (n c : Nat) (x y : Int) (g8 : Nat) (A8 : Option Addr) (c8 : Nat) (wr : World) : Prop where
  b0 : Blk wr w.heap.size 35 #[.int .i64 k, .slice A n c, .int .i64 0]
  b1 : Blk wr (w.heap.size + 1) 27 #[.int .i64 x, .int .i64 y]
  b2 : Blk wr g8 35 #[.int .i64 k, .slice A8 n c8, .int .i64 0]
  bel : Below w.heap.size w wr
theorem Tu2.step {w : World} {k : Int} {A : Option Addr} {n c : Nat} {x y : Int} {g8 : Nat} {A8 : Option Addr} {c8 : Nat} {wr w' : World} (h : Tu2 w k A n c x y g8 A8 c8 wr) (hb : Below wr.heap.size wr w') : Tu2 w k A n c x y g8 A8 c8 w' :=
  ⟨h.b0.step hb, h.b1.step hb, h.b2.step hb, h.bel.step' hb⟩
theorem Tu2.cells {w : World} {k : Int} {A : Option Addr} {n c : Nat} {x y : Int} {g8 : Nat} {A8 : Option Addr} {c8 : Nat} {wr : World} (h : Tu2 w k A n c x y g8 A8 c8 wr) :
    wr.cell? ⟨w.heap.size, 0, none⟩ = some (.int .i64 k) ∧ wr.cell? ⟨w.heap.size, 1, none⟩ = some (.slice A n c) ∧ wr.cell? ⟨w.heap.size, 2, none⟩ = some (.int .i64 0) ∧ wr.cell? ⟨w.heap.size + 1, 0, none⟩ = some (.int .i64 x) ∧ wr.cell? ⟨w.heap.size + 1, 1, none⟩ = some (.int .i64 y) ∧
    wr.cell? ⟨g8, 0, none⟩ = some (.int .i64 k) ∧ wr.cell? ⟨g8, 1, none⟩ = some (.slice A8 n c8) ∧ wr.cell? ⟨g8, 2, none⟩ = some (.int .i64 0) :=
  ⟨h.b0.cell 0, h.b0.cell 1, h.b0.cell 2, h.b1.cell 0, h.b1.cell 1, h.b2.cell 0, h.b2.cell 1, h.b2.cell 2⟩

theorem RdPts.of_blk4 {w : World} {g : Nat} {t : TypeId} {a b c d e f h i : Int} (hb : Blk w g t #[.int .i64 a, .int .i64 b, .int .i64 c, .int .i64 d, .int .i64 e, .int .i64 f, .int .i64 h, .int .i64 i]) : RdPts w (some ⟨g, 0, none⟩) 4 [(a, b), (c, d), (e, f), (h, i)] := by
  refine ⟨rfl, by decide, fun _ => ⟨g, 0, rfl, hb.lt, fun j x y hj => ?_⟩⟩
  have hj4 : j < 4 := (List.getElem?_eq_some_iff.1 hj).1
  match j, hj4, hj with
  | 0, _, hj | 1, _, hj | 2, _, hj | 3, _, hj =>
    simp at hj
    obtain ⟨rfl, rfl⟩ := hj
    exact ⟨by rw [hb.cell]; rfl, by rw [hb.cell]; rfl⟩

theorem own_ge {w : World} {base : Nat} {e : TypeId} {size n : Nat} {v : Value} {xs : List Value} (h : w.ownsRow base e size v n xs) : ∀ g, v.ownBlock = some g → base ≤ g := by
  rcases h.2 with ⟨rfl, _⟩ | ⟨g', cap, cur, rfl, hge, _⟩
  · intro g hg; simp [Value.ownBlock] at hg
  · intro g hg
    simp [Value.ownBlock] at hg
    omega
theorem TuInv.next {w : World} {k : Int} {A : Option Addr} {n c : Nat} {x y : Int} {g8 : Nat} {v v' : Value} {pts : List (Int × Int)} {i : Nat} {wr w' : World} {o : Obj} {ax ay : Int}
    (h : TuInv w k A n c x y g8 v pts i wr) (hg : (wr.alloc o).drew.grownBy w' v.ownBlock) (hs : v.ownBlock ≠ some g8) (ho : w'.ownsRow (g8 + 1) 27 2 v' (i + 1) (flatP pts ++ [.int .i64 ax, .int .i64 ay])) (hlt : w.heap.size + 1 < g8) :
    TuInv w k A n c x y g8 v' (pts ++ [(ax, ay)]) (i + 1) (w'.setCell ⟨g8, 1, none⟩ v') := by
  have n0 : v.ownBlock ≠ some w.heap.size := own_ne h.own (by omega)
  have n1 : v.ownBlock ≠ some (w.heap.size + 1) := own_ne h.own (by omega)
  refine ⟨?_, ?_, ?_, hlt, ?_, ?_⟩
  · exact (((h.b0.alloc o).drew).grown hg (fun e => n0 e.symm)).far (by show w.heap.size ≠ g8; omega) _
  · exact (((h.b1.alloc o).drew).grown hg (fun e => n1 e.symm)).far (by show w.heap.size + 1 ≠ g8; omega) _
  · exact (((h.b2.alloc o).drew).grown hg (fun e => hs e.symm)).set_ 1 _
  · rw [flatP_append]
    exact ownsRow_setCell_below ho (by show g8 < g8 + 1; omega) _
  · refine Below.setCell ?_ (by show w.heap.size ≤ g8; omega) _
    exact ((h.bel.alloc h.bel.size o).drew).grown hg (by have := h.bel.size; show _ ≤ (wr.alloc o).heap.size; simp; omega) (fun q hq => by have := own_ge h.own q hq; omega)

set_option linter.unusedSimpArgs false
set_option maxRecDepth 100000 in
set_option maxHeartbeats 4000000 in
theorem geoTurns_loop (k : Int) (A : Option Addr) (n c : Nat) (ps : List (Int × Int)) (x y : Int) (T : Int) (w : World) (h : RdPts w A n ps) (hv : validB k ps 0 = true) (hk : k ≠ 2) (hT0 : 0 ≤ T) (hT1 : T ≤ 100) :
    Calls Try.prog 5 #[shp k A n c 0, pt x y, .int .i64 T] w fun e w' => e = .returned (.bool true) ∧ Below w.heap.size w w' := by
  obtain ⟨T', rfl⟩ := Int.eq_ofNat_of_zero_le hT0
  obtain ⟨i0, hi0, hz0, hz1, hz2⟩ := info_parts info_point
  have hfm := formB_cases (validB_form hv).1
  have hn1 : 2 ≤ n ∧ n ≤ 64 := by rw [h.1] at hfm; omega
  have hkk : (k == 2) = false := by simpa using hk
  have he : (errOf true != 0) = false := by decide
  have H := Lib.hid h
  have HV := Lib.hid hv
  have HF := Lib.hid hfm
  clear h hfm hk hv
  go_enter Try.func5, Try.ntmps5
  go_wp2_with fail
  have I0 : ShInv w k A n c 0 x y ((w.alloc (Obj.cells #[Value.int IntKind.i64 k, Value.slice A n c, Value.int IntKind.i64 0] 35)).alloc (Obj.cells #[Value.int IntKind.i64 x, Value.int IntKind.i64 y] 27)) :=
    ⟨(Blk.new_at rfl).alloc _, Blk.new_at (by simp), ((Below.refl _ _).alloc (Nat.le_refl _) _).alloc (by simp) _⟩
  refine (valid_any _ _ _ _ _ _ _ (H.out.below I0.bel)).mono ?_
  rintro e w1 ⟨rfl, hb⟩
  rw [HV.out]
  have I1 := I0.step hb
  clear I0 hb
  obtain ⟨e0, e1, e2, e3, e4⟩ := I1.cells
  have J1 := Lib.hid I1
  clear I1
  go_wp2_with fail
  refine (rvalid_any _ _ _ _ _ _ _ (H.out.below J1.out.bel)).mono ?_
  rintro e w2 ⟨rfl, hb⟩
  rw [HV.out]
  have I2 := J1.out.step hb
  clear hb e0 e1 e2 e3 e4 J1
  obtain ⟨e0, e1, e2, e3, e4⟩ := I2.cells
  have l0 := I2.b0.lt
  have l1 := I2.b1.lt
  have J2 := Lib.hid I2
  clear I2
  go_wp2_with fail
  go_loopw [9, 43] (fun v9 v43 wr => ∃ (i : Nat) (v : Value), i ≤ n ∧ v43 = .int .i64 i ∧ TuInv w k A n c x y w2.heap.size v ((turned ps T').take i) i wr) (fun _ v43 _ => n - (intOf v43).toNat)
  case atStart => exact ⟨0, .slice none 0 0, Nat.zero_le _, rfl, J2.out.b0.alloc _, J2.out.b1.alloc _, Blk.new_at rfl, l1, ⟨rfl, .inl ⟨rfl, rfl⟩⟩, J2.out.bel.alloc J2.out.bel.size _⟩
  case round =>
    obtain ⟨i, v, hi, rfl, I3⟩ := hrel
    clear e0 e1 e2 e3 e4
    have e1 := I3.b0.cell 1
    have f1 := I3.b2.cell 1
    have z1 := I3.b2.frozen 1
    simp at e1 f1
    by_cases hlt : i < n
    · have hm : turnIx n T' i < n := turnIx_lt n T' i (by omega)
      obtain ⟨⟨ax, ay⟩, hA⟩ : ∃ p, ps[turnIx n T' i]? = some p := ⟨_, List.getElem?_eq_getElem (by have := H.out.1; omega)⟩
      obtain ⟨hl, _, hr⟩ := H.out
      obtain ⟨b, off, rfl, hb, hc⟩ := hr (by omega)
      obtain ⟨a0, a1⟩ := hc _ ax ay hA
      have d0 := (I3.bel.cell (p := ⟨b, off + turnIx n T' i * 2, none⟩) hb).trans a0
      have d1 := (I3.bel.cell (p := ⟨b, off + turnIx n T' i * 2 + 1, none⟩) hb).trans a1
      have hidx : ((T' : Int) + n - 1 - i + n * 100) % (n : Int) = (turnIx n T' i : Int) := by
        unfold turnIx
        rw [Int.natCast_emod]
        congr 1
        omega
      have m1 : (0 : Int) ≤ ((T' : Int) + n - 1 - i + n * 100) % (n : Int) := Int.emod_nonneg _ (by omega)
      have m2 : ((T' : Int) + n - 1 - i + n * 100) % (n : Int) < n := Int.emod_lt_of_pos _ (by omega)
      have HS : Hid ((turned ps T').take (i + 1) = (turned ps T').take i ++ [(ax, ay)]) := by
        have ht := turned_at ps T' i (by omega)
        rw [hl, List.getD_eq_getElem?_getD, hA] at ht
        rw [Hid, List.take_add_one, ht]
        rfl
      have J3 := Lib.hid I3
      clear a0 a1 hA hr hc hl I3
      have k3 : b < wr.heap.size ∧ w2.heap.size < wr.heap.size ∧ w.heap.size < wr.heap.size := ⟨by have := J3.out.bel.size; omega, J3.out.b2.lt, J3.out.b0.lt⟩
      have hs : Hid (v.ownBlock ≠ some w2.heap.size) := own_ne J3.out.own (by omega)
      have W0 : n ≠ 0 := by omega
      have W1 : IntKind.i64.wrap ((T' : Int) + n) = (T' : Int) + n := IntWalk.i64_in _ (by omega)
      have W2 : IntKind.i64.wrap ((T' : Int) + n - 1) = (T' : Int) + n - 1 := IntWalk.i64_in _ (by omega)
      have W3 : IntKind.i64.wrap ((T' : Int) + n - 1 - i) = (T' : Int) + n - 1 - i := IntWalk.i64_in _ (by omega)
      have W4 : IntKind.i64.wrap ((n : Int) * 100) = (n : Int) * 100 := IntWalk.i64_in _ (by omega)
      have W5 : IntKind.i64.wrap ((T' : Int) + n - 1 - i + n * 100) = (T' : Int) + n - 1 - i + n * 100 := IntWalk.i64_in _ (by omega)
      have W6 : ((T' : Int) + n - 1 - i + n * 100).tmod n = (turnIx n T' i : Int) := by
        rw [Int.tmod_eq_emod_of_nonneg (by omega)]; exact hidx
      have W7 : (0 : Int) ≤ (turnIx n T' i : Int) := by omega
      have W8 : (turnIx n T' i : Int) < n := by omega
      have W9 : IntKind.i64.wrap (turnIx n T' i : Int) = (turnIx n T' i : Int) := IntWalk.i64_in _ (by omega)
      clear m1 m2 hidx
      go_upto_region 8 with fail
      go_region_law ((refine step_append_any _ rfl (.tmp 47) (.tmp 63) 33 rfl (w2.heap.size + 1) 27 i0 (.agg #[.int .i64 0, .int .i64 0]) 2 16 Try.underlying33 hi0 hz0 hz1 hz2 rfl (by decide) v i (flatP ((turned ps T').take i)) (by simp [Act.eval, Act.put]) ((J3.out.own.alloc _).drew) (wr.heap.size + 1) (some ⟨wr.heap.size, 0, none⟩) 1 1 [.int .i64 ax, .int .i64 ay] (by simp [Act.eval, Act.put]) ⟨rfl, fun _ => ⟨_, rfl, by simp, news_at _ _ _⟩⟩ (by simp [Value.oneCell']) (by simp only [maxLen]; omega) (by omega) (by simp; omega) ?_; intro v' w' hown' hgr hat; obtain ⟨g, cap, hv'⟩ := own_form hown' (by omega); rw [hv']; have f2 : w'.cell? ⟨w2.heap.size, 1, none⟩ = some v := (grown_cell hgr J3.out.b2.lt hs.out).trans f1; have z2 : w'.frozen? ⟨w2.heap.size, 1, none⟩ = false := (grown_frozen hgr J3.out.b2.lt hs.out).trans z1))
      all_goals
        rw [hv'] at hown'
        clear W0 W1 W2 W3 W4 W5 W6 W7 W8 W9 d0 d1 e1 f1 z1 f2 z2 hv' hat
        have HO := Lib.hid hown'
        have HG := Lib.hid hgr
        clear hown' hgr
        go_wp2_with fail
        go_roundw
        case rel =>
          refine ⟨i + 1, .slice (some ⟨g, 0, none⟩) (i + 1) cap, by omega, by go_num, ?_⟩
          rw [HS.out]
          exact J3.out.next HG.out hs.out HO.out (by omega)
        case measure => simp [intOf]; omega
    · obtain rfl : i = n := by omega
      have hown := I3.own
      rw [List.take_of_length_le (by rw [turned_length]; have := H.out.1; omega)] at hown
      obtain ⟨A8, c8, rfl, hrd⟩ := RdPts.of_own hown (by rw [turned_length]; exact H.out.1) (by simp only [maxLen]; omega)
      have R1 := Lib.hid (H.out.below I3.bel)
      have R2 := Lib.hid hrd
      have V1 := Lib.hid (inside_turned k ps 0 x y T' HV.out (by simpa using hkk))
      have I4 : Tu2 w k A i c x y w2.heap.size A8 c8 wr := ⟨I3.b0, I3.b1, I3.b2, I3.bel⟩
      have J4 := Lib.hid I4
      obtain ⟨q0, q1, q2, q3, q4, q5, q6, q7⟩ := I4.cells
      clear I3 I4 hown hrd e1 f1 z1 J2
      go_wp2_with fail
      refine (inside_any _ _ _ _ _ _ _ _ _ R1.out).mono ?_
      rintro e w3 ⟨rfl, hb⟩
      have R3 := Lib.hid (R2.out.below hb)
      have R4 := Lib.hid (R1.out.below hb)
      have I5 := J4.out.step hb
      have J5 := Lib.hid I5
      clear q0 q1 q2 q3 q4 q5 q6 q7 hb J4 R1 R2
      obtain ⟨q0, q1, q2, q3, q4, q5, q6, q7⟩ := I5.cells
      clear I5
      go_wp2_with fail
      refine (inside_any _ _ _ _ _ _ _ _ _ R3.out).mono ?_
      rintro e w4 ⟨rfl, hb⟩
      rw [V1.out]
      have R5 := Lib.hid (R4.out.below hb)
      have I6 := J5.out.step hb
      have J6 := Lib.hid I6
      clear q0 q1 q2 q3 q4 q5 q6 q7 hb J5 R3 R4
      obtain ⟨q0, q1, q2, q3, q4, q5, q6, q7⟩ := I6.cells
      clear I6
      cases hbox : (k == 1)
      · go_wp2_with (go_at_call 12; refine (awake_any _).mono ?_; rintro e w5 ⟨rfl, hb5⟩)
        go_ret
        exact ⟨rfl, J6.out.bel.step' hb5⟩
      · obtain rfl : k = 1 := by simpa using hbox
        obtain rfl : i = 2 := by have := HF.out; have := R5.out.1; omega
        obtain ⟨ax, ay, bx, by', rfl⟩ := two_of R5.out.1
        obtain ⟨_, _, hr⟩ := R5.out
        obtain ⟨b, off, rfl, hb, hc⟩ := hr (by omega)
        obtain ⟨a0, a1⟩ := hc 0 ax ay rfl
        obtain ⟨b0, b1⟩ := hc 1 bx by' rfl
        simp at a0 a1 b0 b1
        have hps := (validB_form HV.out).2
        have V2 := Lib.hid (box_poly ax ay bx by' x y (hps (ax, ay) (by simp)) (hps (bx, by') (by simp)))
        clear hr hc hbox hps
        generalize insideB 1 [(ax, ay), (bx, by')] 0 x y = q at *
        have l0 := J6.out.b0.lt
        have l1 := J6.out.b1.lt
        go_upto_region 14 with fail
        have k3 : b < w4.heap.size + 1 := by omega
        go_cut [11, 12] (fun s11 s12 wx => ∃ g1 g2 : Nat, s11 = .pointer (some ⟨g1, 0, none⟩) ∧ s12 = .pointer (some ⟨g2, 0, none⟩) ∧ Blk wx g1 27 #[.int .i64 ax, .int .i64 ay] ∧ Blk wx g2 27 #[.int .i64 bx, .int .i64 by'] ∧ Tu2 w 1 (some ⟨b, off, none⟩) 2 c x y w2.heap.size A8 c8 wx)
        case first =>
          go_region
          all_goals (go_wp2_with fail; go_meet)
          all_goals first
            | exact ⟨w4.heap.size, w4.heap.size + 1, rfl, rfl, (Blk.new_at rfl).alloc _, Blk.new_at (by simp), J6.out.step (((Below.refl _ _).alloc (Nat.le_refl _) _).alloc (by simp) _).drew⟩
            | exact ⟨w4.heap.size + 1, w4.heap.size, rfl, rfl, Blk.new_at (by simp), (Blk.new_at rfl).alloc _, J6.out.step (((Below.refl _ _).alloc (Nat.le_refl _) _).alloc (by simp) _).drew⟩
        case rest =>
          obtain ⟨g1, g2, rfl, rfl, B1, B2, I7⟩ := hcut
          clear q0 q1 q2 q3 q4 q5 q6 q7 a0 a1 b0 b1 k3
          have e0 := B1.cell 0
          have e1 := B1.cell 1
          have e2 := B2.cell 0
          have e3 := B2.cell 1
          simp at e0 e1 e2 e3
          obtain ⟨q0, q1, q2, q3, q4, q5, q6, q7⟩ := I7.cells
          have J7 := Lib.hid I7
          have m0 := I7.b0.lt
          have m1 := I7.b1.lt
          clear B1 B2 I7 l0 l1
          go_wp2_with fail
          have I8 := J7.out.step (((Below.refl _ _).alloc (Nat.le_refl _) (Obj.cells #[.int .i64 ax, .int .i64 ay, .int .i64 bx, .int .i64 ay, .int .i64 bx, .int .i64 by', .int .i64 ax, .int .i64 by'] 27)).alloc (by simp) (Obj.cells #[.int .i64 3, .slice (some ⟨wc.heap.size, 0, none⟩) 4 4, .int .i64 0] 35))
          have B4 : Blk ((wc.alloc (Obj.cells #[.int .i64 ax, .int .i64 ay, .int .i64 bx, .int .i64 ay, .int .i64 bx, .int .i64 by', .int .i64 ax, .int .i64 by'] 27)).alloc (Obj.cells #[.int .i64 3, .slice (some ⟨wc.heap.size, 0, none⟩) 4 4, .int .i64 0] 35)) wc.heap.size 27 #[.int .i64 ax, .int .i64 ay, .int .i64 bx, .int .i64 ay, .int .i64 bx, .int .i64 by', .int .i64 ax, .int .i64 by'] := (Blk.new_at rfl).alloc _
          refine (inside_any _ _ _ _ _ _ _ _ _ (RdPts.of_blk4 B4)).mono ?_
          rintro e w5 ⟨rfl, hb5⟩
          rw [V2.out]
          have J8 := Lib.hid (I8.step hb5)
          clear q0 q1 q2 q3 q4 q5 q6 q7 e0 e1 e2 e3 m0 m1 I8 B4 hb5
          go_wp2_with (go_at_call 12; refine (awake_any _).mono ?_; rintro e w6 ⟨rfl, hb6⟩)
          go_ret
          exact ⟨rfl, J8.out.bel.step' hb6⟩

set_option maxHeartbeats 1000000 in
theorem geoTurns_walk (k : Int) (A : Option Addr) (n c : Nat) (r : Int) (ps : List (Int × Int)) (x y T : Int) (w : World) (h : RdPts w A n ps) :
    Calls Try.prog 5 #[shp k A n c r, pt x y, .int .i64 T] w fun e w' => e = .returned (.bool true) ∧ Below w.heap.size w w' := by
  by_cases hall : validB k ps r = true ∧ k ≠ 2 ∧ 0 ≤ T ∧ T ≤ 100
  · obtain ⟨hv, hk, h0, h1⟩ := hall
    obtain rfl : r = 0 := by
      rcases formB_cases (validB_form hv).1 with h | h | h <;> omega
    exact geoTurns_loop k A n c ps x y T w h hv hk h0 h1
  · have hno : validB k ps r = false ∨ (validB k ps r = true ∧ ((k == 2) = true ∨ ((k == 2) = false ∧ (T < 0 ∨ 100 < T)))) := by
      cases hv : validB k ps r
      · exact .inl rfl
      · refine .inr ⟨rfl, ?_⟩
        cases hk : (k == 2)
        · refine .inr ⟨rfl, ?_⟩
          have h2 : k ≠ 2 := by simpa using hk
          rcases Int.lt_or_le T 0 with h3 | h3
          · exact .inl h3
          · rcases Int.lt_or_le 100 T with h4 | h4
            · exact .inr h4
            · exact absurd ⟨hv, h2, h3, h4⟩ hall
        · exact .inl rfl
    have H := Lib.hid h
    have e1 : (errOf true != 0) = false := by decide
    have e2 : (errOf false != 0) = true := by decide
    clear h hall
    go_enter Try.func5, Try.ntmps5
    go_wp2_with fail
    have I0 : ShInv w k A n c r x y ((w.alloc (Obj.cells #[Value.int IntKind.i64 k, Value.slice A n c, Value.int IntKind.i64 r] 35)).alloc (Obj.cells #[Value.int IntKind.i64 x, Value.int IntKind.i64 y] 27)) :=
      ⟨(Blk.new_at rfl).alloc _, Blk.new_at (by simp), ((Below.refl _ _).alloc (Nat.le_refl _) _).alloc (by simp) _⟩
    refine (valid_any _ _ _ _ _ _ _ (H.out.below I0.bel)).mono ?_
    rintro e w1 ⟨rfl, hb⟩
    have I1 := I0.step hb
    clear I0 hb
    obtain ⟨q0, q1, q2, q3, q4⟩ := I1.cells
    have J1 := Lib.hid I1
    clear I1
    rcases hno with hv | ⟨hv, hr⟩
    · rw [hv]
      go_wp2_with (go_at_call 12; refine (awake_any _).mono ?_; rintro e w6 ⟨rfl, hb6⟩)
      go_ret
      exact ⟨rfl, J1.out.bel.step' hb6⟩
    · rw [hv]
      have HV := Lib.hid hv
      clear hv
      go_wp2_with fail
      refine (rvalid_any _ _ _ _ _ _ _ (H.out.below J1.out.bel)).mono ?_
      rintro e w2 ⟨rfl, hb⟩
      rw [HV.out]
      have I2 := J1.out.step hb
      clear hb q0 q1 q2 q3 q4 J1
      obtain ⟨q0, q1, q2, q3, q4⟩ := I2.cells
      have J2 := Lib.hid I2
      clear I2
      rcases hr with hk | ⟨hk, hT | hT⟩
      all_goals
        go_wp2_with (go_at_call 12; refine (awake_any _).mono ?_; rintro e w6 ⟨rfl, hb6⟩)
        go_ret
        exact ⟨rfl, J2.out.bel.step' hb6⟩

end Go.Proofs.Ytefolbfopjfbcaa
