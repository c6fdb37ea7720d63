/- The contract of geo.Parse. -/
import Derived.Test.YtefolbfopjfbcaaGeoPointsWalk
import Derived.Test.YtefolbfopjfbcaaGeoTurnsWalk
namespace Go.Proofs.Ytefolbfopjfbcaa
open Go.RowKit
set_option linter.unusedSimpArgs false

def kindOf (s : ByteArray) : Int := if s.toList == [36, 98, 111, 120] then 1 else if s.toList == [36, 99, 105, 114, 99, 108, 101] then 2 else if s.toList == [36, 112, 111, 108, 121, 103, 111, 110] then 3 else 0

def ptOf (x : Val) : Option (Int × Int) := if ptOk (ptArgs x).1 (ptArgs x).2.1 (ptArgs x).2.2.1 (ptArgs x).2.2.2 then some ((ptArgs x).2.1, (ptArgs x).2.2.2) else none
def ptsOf : List Val → Option (List (Int × Int))
  | [] => some []
  | x :: r => match ptOf x with | none => none | some p => (ptsOf r).map (p :: ·)
/-- the kind, the radius and the values of the points -/
def headOf (x : Val) : Option (Int × Int × List Val) :=
  match x.k == 5, x.d with
  | true, [f] => if f.v.k == 6 then
      if kindOf f.s == 2 then
        match f.v.l with
        | [a, b] => if b.k == 3 then some (2, b.n, [a]) else none
        | _ => none
      else some (kindOf f.s, 0, f.v.l)
    else none
  | _, _ => none
def bodyOf (k r : Int) (l : List Val) : Option (Int × List (Int × Int) × Int) := match ptsOf l with | none => none | some ps => if validB k ps r then some (k, ps, r) else none
def parseV (x : Val) : Option (Int × List (Int × Int) × Int) := match headOf x with | none => none | some (k, r, l) => bodyOf k r l

/-- what Parse hands back -/
def PRes (o : Option (Int × List (Int × Int) × Int)) (w : World) (e : Ending) (w' : World) : Prop :=
  (o = none ∧ e = .returned (.tuple #[shp 0 none 0 0 0, .int .i64 18]) ∧ Below w.heap.size w w') ∨
  ∃ k ps r A n c, o = some (k, ps, r) ∧ e = .returned (.tuple #[shp k A n c r, .int .i64 0]) ∧ RdPts w' A n ps ∧ Below w.heap.size w w'

/-- a slice of values -/
structure RdL (w : World) (A : Option Addr) (n c : Nat) (l : List Val) : Prop where
  ln : n = l.length
  lc : n ≤ c
  sz : n * 80 ≤ reach
  el : 0 < n → ∃ b off, A = some ⟨b, off, none⟩ ∧ ∀ (i : Nat) (y : Val), l[i]? = some y → ∃ e, VAt w b (off + i * 5) e ∧ RW w e y
theorem RdL.of_rv {w : World} {c : VC} {x : Val} (h : RW w c x) : RdL w c.LA c.ln c.lc x.l := by
  have ho := h.open
  refine ⟨ho.ln, ho.lc, ho.lsz, fun hp => ?_⟩
  obtain ⟨b, off, h1, _, h2⟩ := ho.la hp
  exact ⟨b, off, h1, h2⟩
theorem RdL.step {w w' : World} {A : Option Addr} {n c : Nat} {l : List Val} (h : RdL w A n c l) (hb : Below w.heap.size w w') : RdL w' A n c l := by
  refine ⟨h.ln, h.lc, h.sz, fun hp => ?_⟩
  obtain ⟨b, off, h1, h2⟩ := h.el hp
  refine ⟨b, off, h1, fun i y hi => ?_⟩
  obtain ⟨e, k1, k2⟩ := h2 i y hi
  exact ⟨e, k1.step hb, k2.step hb⟩

theorem load_shp (g : Nat) (k : Int) (A : Option Addr) (n c : Nat) (r : Int) (W : World) (h : Blk W g 35 #[.int .i64 k, .slice A n c, .int .i64 r]) :
    (loadVar 35 ⟨g, 0, none⟩).run Try.prog W = .ok (shp k A n c r) W := by
  have q0 := h.cell 0
  have q1 := h.cell 1
  have q2 := h.cell 2
  simp at q0 q1 q2
  simp [go_sem, q0, q1, q2]
theorem results_shp_err {fn : Func} {p u : Tmp} (h : fn.results = #[.cell p 35, .tmp u]) (tmps : Array Value) (g1 : Nat) (h1 : tmps.getD p undef = .pointer (some ⟨g1, 0, none⟩)) (e : Value) (h2 : tmps.getD u undef = e)
    (W : World) (k : Int) (A : Option Addr) (n c : Nat) (r : Int) (q : Blk W g1 35 #[.int .i64 k, .slice A n c, .int .i64 r]) :
    (results fn tmps).run Try.prog W = .ok (.tuple #[shp k A n c r, e]) W := by
  rw [results_cell_tmp h, h1, h2]
  simp [asAddr, load_shp g1 k A n c r W q]

/-- the blocks of Parse -/
structure PaInv (w : World) (k r : Int) (v : Value) (wr : World) : Prop where
  b1 : Blk wr (w.heap.size + 1) 35 #[.int .i64 0, .slice none 0 0, .int .i64 0]
  b2 : Blk wr (w.heap.size + 2) 35 #[.int .i64 k, v, .int .i64 r]
  bel : Below w.heap.size w wr
structure PaL (w : World) (k r : Int) (v : Value) (pts : List (Int × Int)) (i : Nat) (wr : World) : Prop extends PaInv w k r v wr where
  own : wr.ownsRow (w.heap.size + 3) 27 2 v i (flatP pts)

theorem ownsRow_step {w w' : World} {base : Nat} {e : TypeId} {size n : Nat} {v : Value} {xs : List Value} (h : w.ownsRow base e size v n xs) (hb : Below w.heap.size w w') : w'.ownsRow base e size v n xs := by
  refine ⟨h.1, ?_⟩
  rcases h.2 with h2 | ⟨g, cap, cur, hv, hg, hh, hr⟩
  · exact .inl h2
  · refine .inr ⟨g, cap, cur, hv, hg, ?_, hr⟩
    have hlt : g < w.heap.size := by
      rcases Nat.lt_or_ge g w.heap.size with hlt | hge
      · exact hlt
      · rw [Array.getElem?_eq_none hge] at hh; cases hh
    rw [hb.block g hlt]
    exact hh
theorem PaL.step {w : World} {k r : Int} {v : Value} {pts : List (Int × Int)} {i : Nat} {wr w' : World} (h : PaL w k r v pts i wr) (hb : Below wr.heap.size wr w') : PaL w k r v pts i w' :=
  ⟨⟨h.b1.step hb, h.b2.step hb, h.bel.step' hb⟩, ownsRow_step h.own hb⟩
theorem PaL.next {w : World} {k r : Int} {v v' : Value} {pts : List (Int × Int)} {i : Nat} {wr w' : World} {ax ay : Int} {o : Obj}
    (h : PaL w k r v pts i wr) (hg : (wr.alloc o).grownBy w' v.ownBlock) (ho : w'.ownsRow (w.heap.size + 3) 27 2 v' (i + 1) (flatP pts ++ [.int .i64 ax, .int .i64 ay])) :
    PaL w k r v' (pts ++ [(ax, ay)]) (i + 1) (w'.setCell ⟨w.heap.size + 2, 1, none⟩ v') := by
  have n1 : v.ownBlock ≠ some (w.heap.size + 1) := own_ne h.own (by omega)
  have n2 : v.ownBlock ≠ some (w.heap.size + 2) := own_ne h.own (by omega)
  refine ⟨⟨?_, ?_, ?_⟩, ?_⟩
  · exact ((h.b1.alloc o).grown hg (fun e => n1 e.symm)).far (by show w.heap.size + 1 ≠ w.heap.size + 2; omega) _
  · exact ((h.b2.alloc o).grown hg (fun e => n2 e.symm)).set_ 1 _
  · refine Below.setCell ?_ (by show w.heap.size ≤ w.heap.size + 2; omega) _
    exact (h.bel.alloc h.bel.size o).grown hg (by have := h.bel.size; show _ ≤ (wr.alloc o).heap.size; simp; omega) (fun q hq => by have := own_ge h.own q hq; omega)
  · rw [flatP_append]
    exact ownsRow_setCell_below ho (by show w.heap.size + 2 < w.heap.size + 3; omega) _
theorem ptsOf_snoc : ∀ {l : List Val} {i : Nat} {pts : List (Int × Int)} {y : Val} {p : Int × Int}, ptsOf (l.take i) = some pts → l[i]? = some y → ptOf y = some p → ptsOf (l.take (i + 1)) = some (pts ++ [p]) := by
  intro l
  induction l with
  | nil => intro i pts y p _ h; simp at h
  | cons x l ih =>
    intro i pts y p h1 h2 h3
    cases i with
    | zero =>
      simp at h2
      subst h2
      simp [ptsOf] at h1
      subst h1
      simp [ptsOf, h3]
    | succ i =>
      simp only [List.take_succ_cons, ptsOf] at h1 ⊢
      simp only [List.getElem?_cons_succ] at h2
      cases hx : ptOf x with
      | none => rw [hx] at h1; cases h1
      | some q =>
        rw [hx] at h1
        simp only [Option.map_eq_some_iff] at h1
        obtain ⟨pr, hp, rfl⟩ := h1
        simp [ih hp h2 h3]
theorem ptsOf_none : ∀ {l : List Val} {i : Nat} {y : Val}, l[i]? = some y → ptOf y = none → ptsOf l = none := by
  intro l
  induction l with
  | nil => intro i y h; simp at h
  | cons x l ih =>
    intro i y h2 h3
    cases i with
    | zero =>
      simp at h2
      subst h2
      simp [ptsOf, h3]
    | succ i =>
      simp only [List.getElem?_cons_succ] at h2
      simp only [ptsOf, ih h2 h3]
      cases ptOf x <;> rfl
theorem ptsOf_length : ∀ {l : List Val} {pts : List (Int × Int)}, ptsOf l = some pts → pts.length = l.length := by
  intro l
  induction l with
  | nil => intro pts h; simp [ptsOf] at h; subst h; rfl
  | cons x l ih =>
    intro pts h
    simp only [ptsOf] at h
    cases hx : ptOf x with
    | none => rw [hx] at h; cases h
    | some q =>
      rw [hx] at h
      simp only [Option.map_eq_some_iff] at h
      obtain ⟨pr, hp, rfl⟩ := h
      simp [ih hp]
theorem ptRes_some {y : Val} {p : Int × Int} (h : ptOf y = some p) : ptRes (ptArgs y).1 (ptArgs y).2.1 (ptArgs y).2.2.1 (ptArgs y).2.2.2 = .tuple #[pt p.1 p.2, .int .i64 0] := by
  unfold ptOf at h
  split at h
  · rename_i hq
    cases h
    simp [ptRes, hq]
  · cases h
theorem ptRes_none {y : Val} (h : ptOf y = none) : ptRes (ptArgs y).1 (ptArgs y).2.1 (ptArgs y).2.2.1 (ptArgs y).2.2.2 = .tuple #[pt 0 0, .int .i64 18] := by
  unfold ptOf at h
  split at h
  · cases h
  · rename_i hq
    simp [ptRes, hq]
theorem PaInv.zero {w : World} {k r : Int} {v : Value} {wr : World} (h : PaInv w k r v wr) :
    PaInv w k r v (((wr.setCell ⟨w.heap.size + 1, 0, none⟩ (.int .i64 0)).setCell ⟨w.heap.size + 1, 1, none⟩ (.slice none 0 0)).setCell ⟨w.heap.size + 1, 2, none⟩ (.int .i64 0)) :=
  ⟨((h.b1.set_ 0 _).set_ 1 _).set_ 2 _, ((h.b2.far (by show w.heap.size + 2 ≠ w.heap.size + 1; omega) _).far (by show w.heap.size + 2 ≠ w.heap.size + 1; omega) _).far (by show w.heap.size + 2 ≠ w.heap.size + 1; omega) _,
   ((h.bel.setCell (by show w.heap.size ≤ w.heap.size + 1; omega) _).setCell (by show w.heap.size ≤ w.heap.size + 1; omega) _).setCell (by show w.heap.size ≤ w.heap.size + 1; omega) _⟩
theorem PaInv.alloc {w : World} {k r : Int} {v : Value} {wr : World} (h : PaInv w k r v wr) (o : Obj) : PaInv w k r v (wr.alloc o) := ⟨h.b1.alloc o, h.b2.alloc o, h.bel.alloc h.bel.size o⟩
theorem PaInv.drew {w : World} {k r : Int} {v : Value} {wr : World} (h : PaInv w k r v wr) : PaInv w k r v wr.drew := ⟨h.b1.drew, h.b2.drew, h.bel.drew⟩
theorem PaInv.err {w : World} {k r : Int} {v : Value} {wr : World} (h : PaInv w k r v wr) {x : Val} (ho : parseV x = none) (tmps : Array Value) (h1 : tmps.getD 2 undef = .pointer (some ⟨w.heap.size + 1, 0, none⟩)) (h2 : tmps.getD 3 undef = .int .i64 18) :
    bodyPost Try.prog Try.f23 (PRes (parseV x) w) .ret ⟨tmps, []⟩ wr :=
  bodyPost_ret (results_shp_err rfl _ _ h1 _ h2 _ _ _ _ _ _ h.b1) rfl (.inl ⟨ho, rfl, h.bel⟩)

theorem parseV_none {x : Val} (h : headOf x = none) : parseV x = none := by simp [parseV, h]

set_option maxRecDepth 100000 in
set_option maxHeartbeats 4000000 in
theorem parse_any (x : Val) (c : VC) (w : World) (h : RW w c x) : Calls Try.prog 23 #[c.val] w (PRes (parseV x) w) := by
  have H := Lib.hid h
  have ho := h.open
  clear h
  by_cases hk : c.k = 5 ∧ c.dn = 1
  · obtain ⟨hk5, hd1⟩ := hk
    obtain ⟨b, off, hDA, _, hel⟩ := ho.da (by omega)
    obtain ⟨f, hf⟩ : ∃ f, x.d = [f] := by
      have := ho.dn
      match hd : x.d with
      | [f] => exact ⟨f, rfl⟩
      | [] => rw [hd] at this; simp at this; omega
      | _ :: _ :: _ => rw [hd] at this; simp at this; omega
    obtain ⟨hs, _, u, hu, hr⟩ := hel 0 f (by rw [hf]; rfl)
    simp only [Nat.zero_mul, Nat.add_zero] at hs hu
    obtain ⟨ck, cn, ct, cLA, cln, clc, cDA, cdn, cdc⟩ := c
    simp only at hk5 hd1 hDA
    subst hk5 hd1 hDA
    have hb := hu.lt
    obtain ⟨uk, un, ut, uLA, uln, ulc, uDA, udn, udc⟩ := u
    obtain ⟨c0, c1, c2, c3, c4⟩ := hu
    simp only at c0 c1 c2 c3 c4
    have hbk : b < w.heap.size + 1 ∧ b < w.heap.size + 2 := by omega
    have hfk : uk = f.v.k := hr.open.k
    have HH : Hid (headOf x = if f.v.k == 6 then
      if kindOf f.s == 2 then
        match f.v.l with
        | [a, b] => if b.k == 3 then some (2, b.n, [a]) else none
        | _ => none
      else some (kindOf f.s, 0, f.v.l)
    else none) := by
      have h5 : x.k = 5 := ho.k.symm
      simp [headOf, Hid, h5, hf]
    have HL := Lib.hid (RdL.of_rv hr)
    simp only at HL
    have HR := Lib.hid hr
    clear ho hel hr hf
    have I0 : Hid (∀ k r : Int, PaInv w k r (.slice none 0 0) ((((w.alloc (Obj.cells #[.int .i64 5, .int .i64 cn, .string ct, .slice cLA cln clc, .slice (some ⟨b, off, none⟩) 1 cdc] 25)).alloc (Obj.cells #[.int .i64 0, .slice none 0 0, .int .i64 0] 35)).alloc (Obj.cells #[.int .i64 k, .slice none 0 0, .int .i64 r] 35)))) :=
        Lib.hid fun _ _ => ⟨(Blk.new_at (by simp)).alloc _, Blk.new_at (by simp), (((Below.refl _ _).alloc (Nat.le_refl _) _).alloc (by simp) _).alloc (by simp; omega) _⟩
    cases hk6 : (uk != 6)
    · have h6 : f.v.k = 6 := by rw [← hfk]; simpa using hk6
      have HH' := HH.out
      simp only [h6] at HH'
      go_enter Try.func23, Try.ntmps23
      go_upto_block 0 with fail
      go_cut [5] (fun s5 wx => ∃ (k r : Int) (A : Option Addr) (n cc : Nat) (l : List Val), s5 = .slice A n cc ∧ headOf x = some (k, r, l) ∧ RdL w A n cc l ∧ PaInv w k r (.slice none 0 0) wx)
      case first =>
        cases n1 : (f.s.toList == [36, 98, 111, 120])
        · cases n2 : (f.s.toList == [36, 99, 105, 114, 99, 108, 101])
          · cases n3 : (f.s.toList == [36, 112, 111, 108, 121, 103, 111, 110])
            · go_wp2_with fail
              go_meet
              have hkd : kindOf f.s = 0 := by simp [kindOf, n1, n2, n3]
              refine ⟨0, 0, uLA, uln, ulc, f.v.l, rfl, by rw [HH']; simp [hkd], HL.out, I0.out 0 0⟩
            · go_wp2_with fail
              go_meet
              have hkd : kindOf f.s = 3 := by simp [kindOf, n1, n2, n3]
              refine ⟨3, 0, uLA, uln, ulc, f.v.l, rfl, by rw [HH']; simp [hkd], HL.out, I0.out 3 0⟩
          · have hkd : kindOf f.s = 2 := by simp [kindOf, n1, n2]
            have HLN := Lib.hid HL.out.ln
            cases hl2 : ((uln : Int) != 2)
            · obtain rfl : uln = 2 := by simp at hl2; omega
              obtain ⟨a1, a2, hl⟩ : ∃ a1 a2, f.v.l = [a1, a2] := by
                have hlen := HLN.out
                match hd : f.v.l with
                | [a, b] => exact ⟨a, b, rfl⟩
                | [] => rw [hd] at hlen; simp at hlen
                | [_] => rw [hd] at hlen; simp at hlen
                | _ :: _ :: _ :: _ => rw [hd] at hlen; simp at hlen
              obtain ⟨lb, lo, rfl, hel⟩ := HL.out.el (by omega)
              obtain ⟨e1, v1, r1⟩ := hel 1 a2 (by rw [hl]; rfl)
              have hlb := v1.lt
              have hlc := HL.out.lc
              have hlbk : lb < w.heap.size + 1 ∧ lb < w.heap.size + 2 := by omega
              obtain ⟨p0, p1, _, _, _⟩ := v1
              simp only [Nat.one_mul] at p0 p1
              have hek := r1.open.k
              have hen := r1.open.n
              cases hk3 : (e1.k != 3)
              · have HD : Hid (headOf x = some (2, e1.n, [a1])) := by
                  rw [Hid, HH', hl]
                  simp at hk3
                  simp [hkd, ← hek, hk3, hen]
                have HX : Hid (RdL w (some ⟨lb, lo, none⟩) 1 ulc [a1]) := by
                  refine ⟨rfl, by omega, by have := HL.out.sz; omega, fun _ => ⟨lb, lo, rfl, fun i y hi => ?_⟩⟩
                  match i, hi with
                  | 0, hi => exact hel 0 y (by rw [hl]; simpa using hi)
                clear hek hen
                go_upto_region 11 with fail
                go_region
                all_goals
                  go_wp2_with fail
                  go_meet
                  exact ⟨2, e1.n, _, 1, ulc, [a1], rfl, HD.out, HX.out, (I0.out 2 e1.n).drew⟩
              · go_wp2_with fail
                refine (I0.out 0 0).err (parseV_none ?_) _ rfl rfl
                rw [HH', hl]
                simp at hk3
                simp [hkd, ← hek, hk3]
            · go_wp2_with fail
              refine (I0.out 0 0).err (parseV_none ?_) _ rfl rfl
              rw [HH', if_pos (by rfl), hkd, if_pos (by rfl)]
              have hlen := HLN.out
              simp at hl2
              split
              · rename_i hq
                rw [hq] at hlen
                simp at hlen
                omega
              · rfl
        · go_wp2_with fail
          go_meet
          have hkd : kindOf f.s = 1 := by simp [kindOf, n1]
          refine ⟨1, 0, uLA, uln, ulc, f.v.l, rfl, by rw [HH']; simp [hkd], HL.out, I0.out 1 0⟩
      case rest =>
        obtain ⟨k, r, A, n, cc, l, rfl, hd, hL, I1⟩ := hcut
        clear HH' HH I0 HL HR c0 c1 c2 c3 c4 hs H
        have HD := Lib.hid hd
        have HL := Lib.hid hL
        have HI := Lib.hid I1
        have hnm : n ≤ maxLen := by have := hL.sz; simp only [reach] at this; simp only [maxLen]; omega
        have hn9 : n ≤ 1759218604391 := by have := hL.sz; simp only [reach] at this; omega
        clear hd hL I1 hfk hk6 h6 hb hbk
        obtain ⟨i0, hi0, hz0, hz1, hz2⟩ := info_parts info_point
        go_wp2_with fail
        go_loopw [70] (fun v70 wr => ∃ (i : Nat) (v : Value) (pts : List (Int × Int)), i ≤ n ∧ v70 = .int .i64 i ∧ ptsOf (l.take i) = some pts ∧ PaL w k r v pts i wr) (fun v70 _ => n - (intOf v70).toNat)
        case atStart => exact ⟨0, _, [], Nat.zero_le _, rfl, rfl, HI.out, ⟨rfl, .inl ⟨rfl, rfl⟩⟩⟩
        case round =>
          obtain ⟨i, v, pts, hi, rfl, hp, I3⟩ := hrel
          have HP := Lib.hid hp
          have J3 := Lib.hid I3
          clear hp
          by_cases hlt : i < n
          · obtain ⟨y, hy⟩ : ∃ y, l[i]? = some y := ⟨_, List.getElem?_eq_getElem (by have := HL.out.ln; omega)⟩
            obtain ⟨b, off, rfl, hel⟩ := (HL.out.step I3.bel).el (by omega)
            obtain ⟨e, ve, re⟩ := hel i y hy
            have hbl := ve.lt
            obtain ⟨p0, p1, p2, p3, p4⟩ := ve
            have HE := Lib.hid re
            clear hel re I3
            go_wp2_with fail
            refine (point_any e _ _ _ _ _ (psel_any (HE.out.alloc _) (gives_get (HE.out.alloc _)))).mono ?_
            rintro ee w1 ⟨rfl, hb⟩
            have I4 := J3.out.step (((Below.refl _ _).alloc (Nat.le_refl _) _).step' hb)
            have g1 := I4.b2.cell 1
            have z1 := I4.b2.frozen 1
            have l1 := I4.b1.lt
            have l2 := I4.b2.lt
            have q0 := I4.b1.frozen 0
            have q1 := I4.b1.frozen 1
            have q2 := I4.b1.frozen 2
            have q3 := I4.b1.cell 0
            have q4 := I4.b1.cell 1
            have q5 := I4.b1.cell 2
            simp at g1 q3 q4 q5
            have J4 := Lib.hid I4
            clear p0 p1 p2 p3 p4 hb I4 hbl HE
            cases hpt : ptOf y with
            | none =>
              rw [ptRes_none hpt]
              have HN : Hid (parseV x = none) := by
                have hl0 : ptsOf l = none := ptsOf_none hy hpt
                simp [parseV, HD.out, bodyOf, hl0, Hid]
              clear hy hpt
              go_wp2_with fail
              exact (J4.out.toPaInv.zero.alloc _).err HN.out _ rfl rfl
            | some p =>
              rw [ptRes_some hpt]
              have HN := Lib.hid (ptsOf_snoc HP.out hy hpt)
              clear hy hpt
              have hs : v.ownBlock ≠ some (w.heap.size + 2) := own_ne J4.out.own (by omega)
              go_wp2_with (at_builtin; refine wpList_append_own _ rfl _ _ 33 rfl (w.heap.size + 3) 27 i0 (.agg #[.int .i64 0, .int .i64 0]) 2 16 Try.underlying33 hi0 hz0 hz1 hz2 rfl (by decide) v i (flatP pts) rfl ?c0 ⟨w1.heap.size + 1, 0, none⟩ 1 1 [.int .i64 p.1, .int .i64 p.2] rfl rfl ?c1 ?c2 ?c3 ?c4 ?c5 ?_)
              case c0 => exact (J4.out.own.alloc _).alloc _
              case c1 =>
                rw [show w1.heap.size + 1 = (w1.alloc (Obj.cells #[.int .i64 p.1, .int .i64 p.2] 27)).heap.size from by simp]
                exact news_at _ _ _
              case c2 => simp [Value.oneCell']
              case c3 => omega
              case c4 => omega
              case c5 => simp; omega
              intro v2 w2 hown hg _
              have I5 := J4.out.step ((Below.refl _ _).alloc (Nat.le_refl _) (Obj.cells #[.int .i64 p.1, .int .i64 p.2] 27))
              obtain ⟨g, cap, rfl⟩ := own_form hown (by omega)
              have B2 := (I5.b2.alloc _).grown hg (fun e => hs e.symm)
              clear g1 z1 q0 q1 q2 q3 q4 q5
              have g1 := B2.cell 1
              have z1 := B2.frozen 1
              simp at g1
              have J5 := Lib.hid I5
              have HO := Lib.hid hown
              have HG := Lib.hid hg
              clear I5 B2 hown hg
              go_wp2_with fail
              go_roundw
              case rel => exact ⟨i + 1, _, _, by omega, by go_num, HN.out, J5.out.next HG.out HO.out⟩
              case measure => simp [intOf]; omega
          · obtain rfl : i = n := by omega
            have hp := HP.out
            rw [List.take_of_length_le (by have := HL.out.ln; omega)] at hp
            have hlen := ptsOf_length hp
            obtain ⟨A8, c8, rfl, hrd⟩ := RdPts.of_own I3.own (by rw [hlen]; exact HL.out.ln.symm) hnm
            have e0 := I3.b2.cell 0
            have e1 := I3.b2.cell 1
            have e2 := I3.b2.cell 2
            simp at e0 e1 e2
            have HV := Lib.hid hrd
            have HP2 := Lib.hid hp
            clear I3 hp hlen hrd
            go_wp2_with fail
            refine (valid_any _ _ _ _ _ _ _ HV.out).mono ?_
            rintro ee w1 ⟨rfl, hb⟩
            have I4 := J3.out.step hb
            have HV4 := Lib.hid (HV.out.below hb)
            have q0 := I4.b1.frozen 0
            have q1 := I4.b1.frozen 1
            have q2 := I4.b1.frozen 2
            have q3 := I4.b1.cell 0
            have q4 := I4.b1.cell 1
            have q5 := I4.b1.cell 2
            simp at q3 q4 q5
            have J4 := Lib.hid I4
            clear e0 e1 e2 hb
            have e0 := I4.b2.cell 0
            have e1 := I4.b2.cell 1
            have e2 := I4.b2.cell 2
            simp at e0 e1 e2
            clear I4
            cases hvb : validB k pts r
            · have he : (errOf false != 0) = true := by decide
              go_wp2_with fail
              refine J4.out.toPaInv.zero.err ?_ _ rfl rfl
              simp [parseV, HD.out, bodyOf, HP2.out, hvb]
            · have he : (errOf true != 0) = false := by decide
              go_wp2_with fail
              have Bz : Blk (((w1.setCell ⟨w.heap.size + 1, 0, none⟩ (.int .i64 k)).setCell ⟨w.heap.size + 1, 1, none⟩ (.slice A8 i c8)).setCell ⟨w.heap.size + 1, 2, none⟩ (.int .i64 r)) (w.heap.size + 1) 35 #[.int .i64 k, .slice A8 i c8, .int .i64 r] := ((J4.out.b1.set_ 0 _).set_ 1 _).set_ 2 _
              have Be := ((J4.out.bel.setCell (p := ⟨w.heap.size + 1, 0, none⟩) (by show w.heap.size ≤ w.heap.size + 1; omega) (.int .i64 k)).setCell (p := ⟨w.heap.size + 1, 1, none⟩) (by show w.heap.size ≤ w.heap.size + 1; omega) (.slice A8 i c8)).setCell (p := ⟨w.heap.size + 1, 2, none⟩) (by show w.heap.size ≤ w.heap.size + 1; omega) (.int .i64 r)
              have Bo := ownsRow_setCell_below (a := ⟨w.heap.size + 1, 2, none⟩) (ownsRow_setCell_below (a := ⟨w.heap.size + 1, 1, none⟩) (ownsRow_setCell_below (a := ⟨w.heap.size + 1, 0, none⟩) J4.out.own (by show w.heap.size + 1 < w.heap.size + 3; omega) (.int .i64 k)) (by show w.heap.size + 1 < w.heap.size + 3; omega) (.slice A8 i c8)) (by show w.heap.size + 1 < w.heap.size + 3; omega) (.int .i64 r)
              obtain ⟨A9, c9, h9, hrd9⟩ := RdPts.of_own Bo (by rw [ptsOf_length HP2.out]; exact HL.out.ln.symm) hnm
              cases h9
              refine bodyPost_ret (results_shp_err rfl _ _ rfl _ rfl _ _ _ _ _ _ Bz) rfl (.inr ⟨k, pts, r, A8, i, c8, ?_, rfl, hrd9, Be⟩)
              simp [parseV, HD.out, bodyOf, HP2.out, hvb]
    · go_enter Try.func23, Try.ntmps23
      go_wp2_with fail
      refine bodyPost_ret (results_shp_err rfl _ _ rfl _ rfl _ _ _ _ _ _ (Blk.new_at (by simp))) rfl (.inl ⟨parseV_none ?_, rfl, ((Below.refl _ _).alloc (Nat.le_refl _) _).alloc (by simp) _⟩)
      rw [HH.out, ← hfk]
      simp at hk6
      simp [hk6]
  · have HN : Hid (parseV x = none) := by
      refine parseV_none ?_
      have h1 := ho.k
      have h2 := ho.dn
      unfold headOf
      split
      · rename_i hk5 hd
        exact absurd ⟨h1.trans (by simpa using hk5), by rw [h2, hd]; rfl⟩ hk
      · rfl
    obtain ⟨ck, cn, ct, cLA, cln, clc, cDA, cdn, cdc⟩ := c
    simp only at hk
    clear ho
    cases hk5 : (ck != 5)
    · have hd : ((cdn : Int) != 1) = true := by
        have : ck = 5 := by simpa using hk5
        simp
        omega
      clear hk
      go_enter Try.func23, Try.ntmps23
      go_wp2_with fail
      exact bodyPost_ret (results_shp_err rfl _ _ rfl _ rfl _ _ _ _ _ _ (Blk.new_at (by simp))) rfl (.inl ⟨HN.out, rfl, ((Below.refl _ _).alloc (Nat.le_refl _) _).alloc (by simp) _⟩)
    · clear hk
      go_enter Try.func23, Try.ntmps23
      go_wp2_with fail
      exact bodyPost_ret (results_shp_err rfl _ _ rfl _ rfl _ _ _ _ _ _ (Blk.new_at (by simp))) rfl (.inl ⟨HN.out, rfl, ((Below.refl _ _).alloc (Nat.le_refl _) _).alloc (by simp) _⟩)

end Go.Proofs.Ytefolbfopjfbcaa
