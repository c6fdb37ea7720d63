/- The contracts of the reference's Find, begin and replace. · The contract of the reference's replace. · The contract of the reference's Mark. Printed by gen_chref2.py. · The contract of the reference's Split. Printed by gen_chref2.py. · The contract of the reference's Join. Printed by gen_chref2.py. · The contract of the reference's Give. Printed by gen_chref2.py. -/
import Derived.Test.YtgcklgkhdokchaaDoorChBaseB
namespace Go.Proofs.YtgcklgkhdokchaaDoor
open Go.RowKit

def verC (v : Int) (c : Ch) : Ch := ⟨c.lo, c.hi, c.sh, v, c.ju⟩

set_option maxRecDepth 100000 in
set_option maxHeartbeats 1000000 in
theorem rbegin_any (R : Ro) (a : RA) (key : ByteArray) (w : World) (h : RR w a R) :
    Calls Tryd.prog 56 #[rval a R, .string key] w fun e w' => e = .returned (.int .i64 (idxI (begB key) R.cs)) ∧ Below w.heap.size w w' := by
  obtain ⟨KA, kn, kc, CA, cn, cc⟩ := a
  have H := Lib.hid h
  have hn : Hid (cn = R.cs.length) := h.cs.ln
  have hcz : cn * 56 ≤ reach := h.cs.sz
  have hkn : cn ≤ 140737488355328 := by unfold reach at hcz; omega
  clear h hcz
  have B0 : Hid (Blk (w.alloc (Obj.cells (rarr ⟨KA, kn, kc, CA, cn, cc⟩ R) 30)) w.heap.size 30 (rarr ⟨KA, kn, kc, CA, cn, cc⟩ R)) := Blk.new_at rfl
  have BE : Hid (Below w.heap.size w (w.alloc (Obj.cells (rarr ⟨KA, kn, kc, CA, cn, cc⟩ R) 30))) := (Below.refl _ _).alloc (Nat.le_refl _) _
  go_enter Tryd.func56, Tryd.ntmps56
  go_upto_region 1 with fail
  change (Code.region 1 _ _).wp _ _ _ (w.alloc (Obj.cells (rarr ⟨KA, kn, kc, CA, cn, cc⟩ R) 30))
  generalize w.alloc (Obj.cells (rarr ⟨KA, kn, kc, CA, cn, cc⟩ R) 30) = wa at *
  obtain ⟨q0, q1, q2, q3, q4, q5, qz⟩ := blk_ro B0.out
  simp only at q1 q5
  clear q0 q1 q2 q3 q4
  go_wp2_with fail
  go_loopw [5] (fun v wr => ∃ i : Nat, i ≤ cn ∧ v = .int .i64 i ∧ idxI (begB key) R.cs = idxFrom (begB key) (R.cs.drop i) i ∧ wr = wa) (fun v _ => cn - (intOf v).toNat)
  case atStart => exact ⟨0, Nat.zero_le _, rfl, rfl, rfl⟩
  case round =>
    obtain ⟨i, hi, rfl, ha, rfl⟩ := hrel
    have HA := Lib.hid ha
    clear ha
    by_cases hlt : i < cn
    · obtain ⟨b, off, x, hA, hb, hx, e0, _, _, _, _⟩ := H.out.cs.sr.at5 hlt
      simp only at hA
      subst hA
      have HX := Lib.hid (idxFrom_at (p := begB key) hx)
      have g0 := (BE.out.cell (p := ⟨b, off + i * 5, none⟩) hb).trans e0
      clear hx e0
      cases hq : (x.lo.toList == key.toList)
      · have HF : Hid (idxI (begB key) R.cs = idxFrom (begB key) (R.cs.drop (i + 1)) (i + 1)) := by rw [Hid, HA.out, HX.out]; unfold begB; rw [hq]; rfl
        go_wp2_with fail
        go_roundw
        case rel => exact ⟨i + 1, by omega, by go_num, HF.out, trivial⟩
        case measure => simp [intOf]; omega
      · have HF : Hid (idxI (begB key) R.cs = (i : Int)) := by rw [Hid, HA.out, HX.out]; unfold begB; rw [hq]; rfl
        go_wp2_with fail
        go_ret
        exact ⟨by rw [HF.out]; rfl, BE.out⟩
    · have HF : Hid (idxI (begB key) R.cs = -1) := by rw [Hid, HA.out]; exact idxFrom_end (by have := hn.out; omega)
      go_wp2_with fail
      go_ret
      exact ⟨by rw [HF.out]; rfl, BE.out⟩

theorem leq_lt (x y : List UInt8) : (Op.bytesLess x y || x == y) = !(Op.bytesLess y x) := by
  have irr : ∀ z : List UInt8, Op.bytesLess z z = false := by
    intro z
    induction z with
    | nil => rfl
    | cons a r ih => simp [Op.bytesLess, ih]
  induction x generalizing y with
  | nil => cases y with
    | nil => rfl
    | cons b s => rfl
  | cons a r ih => cases y with
    | nil => rfl
    | cons b s =>
      simp only [Op.bytesLess]
      rcases Nat.lt_trichotomy a.toNat b.toNat with h | h | h
      · have h1 : decide (a < b) = true := decide_eq_true (UInt8.lt_iff_toNat_lt.2 h)
        have h2 : decide (b < a) = false := decide_eq_false (fun k => by have := UInt8.lt_iff_toNat_lt.1 k; omega)
        have h3 : (b == a) = false := by rw [beq_eq_false_iff_ne]; rintro rfl; omega
        rw [h1, h2, h3]
        simp
      · have hab : a = b := UInt8.toNat_inj.1 h
        subst hab
        have h1 : decide (a < a) = false := decide_eq_false (fun k => by have := UInt8.lt_iff_toNat_lt.1 k; omega)
        rw [h1]
        have := ih s
        simpa using this
      · have h1 : decide (a < b) = false := decide_eq_false (fun k => by have := UInt8.lt_iff_toNat_lt.1 k; omega)
        have h2 : decide (b < a) = true := decide_eq_true (UInt8.lt_iff_toNat_lt.2 h)
        have h3 : (a == b) = false := by rw [beq_eq_false_iff_ne]; rintro rfl; omega
        have h4 : (a :: r == b :: s) = false := by rw [beq_eq_false_iff_ne]; intro k; injection k with k; subst k; omega
        rw [h1, h2, h3, h4]
        rfl

set_option maxRecDepth 100000 in
set_option maxHeartbeats 1000000 in
theorem rfind_any (R : Ro) (a : RA) (key : ByteArray) (w : World) (h : RR w a R) :
    Calls Tryd.prog 55 #[rval a R, .string key] w fun e w' => e = .returned (.int .i64 (idxI (inB key) R.cs)) ∧ Below w.heap.size w w' := by
  obtain ⟨KA, kn, kc, CA, cn, cc⟩ := a
  have H := Lib.hid h
  have hn : Hid (cn = R.cs.length) := h.cs.ln
  have hcz : cn * 56 ≤ reach := h.cs.sz
  have hkn : cn ≤ 140737488355328 := by unfold reach at hcz; omega
  clear h hcz
  have B0 : Hid (Blk (w.alloc (Obj.cells (rarr ⟨KA, kn, kc, CA, cn, cc⟩ R) 30)) w.heap.size 30 (rarr ⟨KA, kn, kc, CA, cn, cc⟩ R)) := Blk.new_at rfl
  have BE : Hid (Below w.heap.size w (w.alloc (Obj.cells (rarr ⟨KA, kn, kc, CA, cn, cc⟩ R) 30))) := (Below.refl _ _).alloc (Nat.le_refl _) _
  go_enter Tryd.func55, Tryd.ntmps55
  go_upto_region 1 with fail
  change (Code.region 1 _ _).wp _ _ _ (w.alloc (Obj.cells (rarr ⟨KA, kn, kc, CA, cn, cc⟩ R) 30))
  generalize w.alloc (Obj.cells (rarr ⟨KA, kn, kc, CA, cn, cc⟩ R) 30) = wa at *
  obtain ⟨q0, q1, q2, q3, q4, q5, qz⟩ := blk_ro B0.out
  simp only at q1 q5
  clear q0 q1 q2 q3 q4
  go_wp2_with fail
  go_loopw [5] (fun v wr => ∃ i : Nat, i ≤ cn ∧ v = .int .i64 i ∧ idxI (inB key) R.cs = idxFrom (inB key) (R.cs.drop i) i ∧ wr = wa) (fun v _ => cn - (intOf v).toNat)
  case atStart => exact ⟨0, Nat.zero_le _, rfl, rfl, rfl⟩
  case round =>
    obtain ⟨i, hi, rfl, ha, rfl⟩ := hrel
    have HA := Lib.hid ha
    clear ha
    by_cases hlt : i < cn
    · obtain ⟨b, off, x, hA, hb, hx, e0, e1, _, _, _⟩ := H.out.cs.sr.at5 hlt
      simp only at hA
      subst hA
      have HX := Lib.hid (idxFrom_at (p := inB key) hx)
      have g0 := (BE.out.cell (p := ⟨b, off + i * 5, none⟩) hb).trans e0
      have g1 := (BE.out.cell (p := ⟨b, off + i * 5 + 1, none⟩) hb).trans e1
      have HIN : Hid (inB key x = ((Op.bytesLess x.lo.toList key.toList || x.lo.toList == key.toList) && (x.hi.toList == [] || Op.bytesLess key.toList x.hi.toList))) := by rw [Hid, leq_lt]; rfl
      clear hx e0 e1
      cases h1 : Op.bytesLess x.lo.toList key.toList
      cases h2 : (x.lo.toList == key.toList)
      · have HF : Hid (idxI (inB key) R.cs = idxFrom (inB key) (R.cs.drop (i + 1)) (i + 1)) := by rw [Hid, HA.out, HX.out, HIN.out, h1, h2]; rfl
        go_wp2_with fail
        go_roundw
        case rel => exact ⟨i + 1, by omega, by go_num, HF.out, trivial⟩
        case measure => simp [intOf]; omega
      all_goals
        cases h3 : (x.hi.toList == [])
        cases h4 : Op.bytesLess key.toList x.hi.toList
        · have HF : Hid (idxI (inB key) R.cs = idxFrom (inB key) (R.cs.drop (i + 1)) (i + 1)) := by rw [Hid, HA.out, HX.out, HIN.out, h3, h4]; simp
          go_wp2_with fail
          go_roundw
          case rel => exact ⟨i + 1, by omega, by go_num, HF.out, trivial⟩
          case measure => simp [intOf]; omega
        · have HF : Hid (idxI (inB key) R.cs = (i : Int)) := by
            rw [Hid, HA.out, HX.out, HIN.out, h1, h3, h4]
            first | rfl | (rw [h2]; rfl)
          go_wp2_with fail
          go_ret
          exact ⟨by rw [HF.out]; rfl, BE.out⟩
        · have HF : Hid (idxI (inB key) R.cs = (i : Int)) := by
            rw [Hid, HA.out, HX.out, HIN.out, h1, h3]
            first | rfl | (rw [h2]; rfl)
          go_wp2_with fail
          go_ret
          exact ⟨by rw [HF.out]; rfl, BE.out⟩
    · have HF : Hid (idxI (inB key) R.cs = -1) := by rw [Hid, HA.out]; exact idxFrom_end (by have := hn.out; omega)
      go_wp2_with fail
      go_ret
      exact ⟨by rw [HF.out]; rfl, BE.out⟩

end Go.Proofs.YtgcklgkhdokchaaDoor

namespace Go.Proofs.YtgcklgkhdokchaaDoor
open Go.RowKit

/-- what replace hands back: the orders of the argument, and chunks in a row of its own -/
def RepOk (a : RA) (R : Ro) (cs : List Ch) (w : World) (e : Ending) (w' : World) : Prop :=
  ∃ (A : Option Addr) (c : Nat), e = .returned (rval ⟨a.KA, a.kn, a.kc, A, cs.length, c⟩ R.nx) ∧ w'.ownsRow w.heap.size 45 5 (.slice A cs.length c) cs.length (flat recC cs) ∧ Below w.heap.size w w'

/-- the state of replace's loop -/
structure Rpl (w : World) (a : RA) (R : Ro) (v : Value) (n : Nat) (cs : List Ch) (wr : World) : Prop where
  b0 : Blk wr w.heap.size 30 (rarr a R.nx)
  b1 : Blk wr (w.heap.size + 1) 30 (rarr RA.zero Ro.zero)
  own : wr.ownsRow (w.heap.size + 2) 45 5 v n (flat recC cs)
  bel : Below w.heap.size w wr
theorem Rpl.step {w wr w1 : World} {a : RA} {R : Ro} {v : Value} {n : Nat} {cs : List Ch} (h : Rpl w a R v n cs wr) (hb : Below wr.heap.size wr w1) : Rpl w a R v n cs w1 := ⟨h.b0.step hb, h.b1.step hb, own_step h.own hb, h.bel.step' hb⟩
theorem Rpl.grow {w wr w1 : World} {a : RA} {R : Ro} {v v' : Value} {n n' : Nat} {cs ds : List Ch} (h : Rpl w a R v n cs wr) (hg : wr.grownBy w1 v.ownBlock) (ho : w1.ownsRow (w.heap.size + 2) 45 5 v' n' (flat recC ds)) : Rpl w a R v' n' ds w1 := by
  have hge := own_ge h.own
  refine ⟨h.b0.grown hg (fun e => by have := hge _ e.symm; omega), h.b1.grown hg (fun e => by have := hge _ e.symm; omega), ho, h.bel.grown hg ?_ fun k hk => ?_⟩
  · have := h.b1.lt; omega
  · have := hge k hk; omega

set_option maxRecDepth 100000 in
set_option maxHeartbeats 1000000 in
theorem replace_any (R : Ro) (a : RA) (i n lb : Nat) (L : List Ch) (ia na : Int) (w : World) (h : RR w a R) (hL : Blk w lb 45 (flat recC L).toArray) (hin : i + n ≤ R.cs.length) (hn0 : 0 < n) (hm : L.length ≤ 2) (hz : R.cs.length ≤ 80) (hia : ia = (i : Nat)) (hna : na = (n : Nat)) :
    Calls Tryd.prog 57 #[rval a R, .int .i64 ia, .int .i64 na, .slice (some ⟨lb, 0, none⟩) L.length L.length] w (RepOk a R (repl R.cs i n (L.map (verC (nx R.ver)))) w) := by
  subst hia hna
  obtain ⟨KA, kn, kc, CA, cn, cc⟩ := a
  obtain ⟨j0, hj0, hy0, hy1, hy2⟩ := info_parts info_chunk
  have H := Lib.hid h
  have hn : Hid (cn = R.cs.length) := h.cs.ln
  have hcc : Hid (cn ≤ cc) := h.cs.sr.lc
  have HR := Lib.hid (h.cs.sr.reads recC_length (by omega))
  have HL := Lib.hid hL
  obtain ⟨m, hml⟩ : ∃ m, m = L.length := ⟨_, rfl⟩
  rw [← hml] at hm ⊢
  have HM := Lib.hid hml
  have hcn : cn ≤ 80 := by rw [hn.out]; exact hz
  have hicn : i + n ≤ cn := by rw [hn.out]; exact hin
  clear h hL hin hz hml
  have B0 : Hid (Blk ((w.alloc (Obj.cells (rarr ⟨KA, kn, kc, CA, cn, cc⟩ R) 30)).alloc (Obj.cells (rarr RA.zero Ro.zero) 30)) w.heap.size 30 (rarr ⟨KA, kn, kc, CA, cn, cc⟩ R)) := (Blk.new_at rfl).alloc _
  have B1 : Hid (Blk ((w.alloc (Obj.cells (rarr ⟨KA, kn, kc, CA, cn, cc⟩ R) 30)).alloc (Obj.cells (rarr RA.zero Ro.zero) 30)) (w.heap.size + 1) 30 (rarr RA.zero Ro.zero)) := Blk.new_at (by simp)
  have BE : Hid (Below w.heap.size w ((w.alloc (Obj.cells (rarr ⟨KA, kn, kc, CA, cn, cc⟩ R) 30)).alloc (Obj.cells (rarr RA.zero Ro.zero) 30))) := ((Below.refl _ _).alloc (Nat.le_refl _) _).alloc (by simp) _
  go_enter Tryd.func57, Tryd.ntmps57
  go_upto_region 1 with fail
  change (Code.region 1 _ _).wp _ _ _ ((w.alloc (Obj.cells (rarr ⟨KA, kn, kc, CA, cn, cc⟩ R) 30)).alloc (Obj.cells (rarr RA.zero Ro.zero) 30))
  generalize (w.alloc (Obj.cells (rarr ⟨KA, kn, kc, CA, cn, cc⟩ R) 30)).alloc (Obj.cells (rarr RA.zero Ro.zero) 30) = wa at *
  obtain ⟨q0, q1, q2, q3, q4, q5, qz⟩ := blk_ro B0.out
  simp only at q1 q5
  have I0 : Hid (Rpl w ⟨KA, kn, kc, CA, cn, cc⟩ R (.slice none 0 0) 0 [] (wa.setCell ⟨w.heap.size, 4, none⟩ (.int .i64 (nx R.ver)))) :=
    ⟨B0.out.set_ 4 _, B1.out.far (by show w.heap.size + 1 ≠ w.heap.size; omega) _, own_nil _ _ _ _, BE.out.setCell (Nat.le_refl _) _⟩
  go_upto_region 2 with fail
  clear q0 q1 q2 q3 q4 q5 qz B0 B1 BE
  change (Code.region 2 _ _).wp _ _ _ (wa.setCell ⟨w.heap.size, 4, none⟩ (.int .i64 (nx R.ver)))
  generalize wa.setCell ⟨w.heap.size, 4, none⟩ (.int .i64 (nx R.ver)) = w1 at *
  obtain ⟨q0, q1, q2, q3, q4, q5, qz⟩ := blk_ro I0.out.b0
  simp only at q1 q5
  have hiI : (i : Int) ≤ (cc : Int) := by have := hcc.out; omega
  have hiN : i ≤ cc := by have := hcc.out; omega
  have H1 := Lib.hid (flat_one recC_one (R.cs.take i))
  have HR1 : Hid (Reads w1 w.heap.size 5 CA i (flat recC (R.cs.take i))) := by
    have := (HR.out.below I0.out.bel).take (k := i) (by show i ≤ cn; omega)
    rw [flat_take recC_length] at this
    exact this
  have hsz1 : w.heap.size + 2 ≤ w1.heap.size := I0.out.b1.lt
  go_wp2_with (at_builtin; refine wpList_append_any _ rfl _ _ 28 rfl (w.heap.size + 2) 45 j0 (aggC Ch.zero) 5 56 Tryd.underlying28 hj0 hy0 hy1 hy2 rfl (by decide) (.slice none 0 0) 0 [] rfl I0.out.own w.heap.size CA i cc (flat recC (R.cs.take i)) rfl HR1.out H1.out (by unfold maxLen; omega) (by omega) hsz1 ?_)
  intro v' w2 hown2 hg2 _
  have htl : (R.cs.take i).length = i := by rw [List.length_take, Nat.min_eq_left (by have := hn.out; omega)]
  have I2 : Hid (Rpl w ⟨KA, kn, kc, CA, cn, cc⟩ R v' i (R.cs.take i) w2) := I0.out.grow hg2 (by simpa using hown2)
  obtain ⟨A2, c2, rfl, _⟩ := own_slice hown2
  clear q0 q1 q2 q3 q4 q5 qz I0 HR1 H1 hown2 hg2 hsz1
  go_wp2_with fail
  obtain ⟨wo, hwo⟩ : ∃ wo : World, wo = w2 := ⟨_, rfl⟩
  rw [← hwo] at I2 ⊢
  clear hwo
  go_loopw [10, 9] (fun v10 v9 wr => ∃ (k : Nat) (A : Option Addr) (c : Nat), k ≤ m ∧ v10 = .int .i64 k ∧ v9 = .slice A (i + k) c ∧ Rpl w ⟨KA, kn, kc, CA, cn, cc⟩ R (.slice A (i + k) c) (i + k) (R.cs.take i ++ (L.map (verC (nx R.ver))).take k) wr) (fun v _ _ => m - (intOf v).toNat)
  case atStart => exact ⟨0, A2, c2, Nat.zero_le _, rfl, rfl, by simpa using I2.out⟩
  case round =>
    obtain ⟨k, A, c, hk, rfl, rfl, I⟩ := hrel
    have J := Lib.hid I
    clear I2
    have hNl := I.b1.lt
    have hNl0 : w.heap.size < wr.heap.size := by omega
    by_cases hlt : k < m
    · obtain ⟨x, hx⟩ : ∃ x, L[k]? = some x := ⟨_, List.getElem?_eq_getElem (by rw [← HM.out]; exact hlt)⟩
      have HX := Lib.hid hx
      have hbl := I.bel
      have hlc : ∀ j v, (recC x)[j]? = some v → wr.cell? ⟨lb, k * 5 + j, none⟩ = some v := fun j v hv => by
        rw [(HL.out.step hbl).cell, List.getElem?_toArray]
        exact flat_get recC_length hx hv
      obtain ⟨xlo, xhi, xsh, xver, xju⟩ := x
      have g0 := hlc 0 _ rfl
      have g1 := hlc 1 _ rfl
      have g2 := hlc 2 _ rfl
      have g3 := hlc 3 _ rfl
      have g4 := hlc 4 _ rfl
      simp only [Nat.add_zero] at g0
      have q4 : wr.cell? ⟨w.heap.size, 4, none⟩ = some (.int .i64 (nx R.ver)) := (blk_ro I.b0).2.2.2.2.1
      have K := Lib.hid ((J.out.step ((Below.refl wr.heap.size wr).alloc (Nat.le_refl _) (Obj.cells #[.string xlo, .string xhi, .int .i64 xsh, .int .i64 (nx R.ver), .bool xju] 45))).step ((Below.refl _ _).alloc (Nat.le_refl _) (Obj.cells #[.string xlo, .string xhi, .int .i64 xsh, .int .i64 (nx R.ver), .bool xju] 45)))
      have HRx : Hid (Reads ((wr.alloc (Obj.cells #[.string xlo, .string xhi, .int .i64 xsh, .int .i64 (nx R.ver), .bool xju] 45)).alloc (Obj.cells #[.string xlo, .string xhi, .int .i64 xsh, .int .i64 (nx R.ver), .bool xju] 45)) (wr.heap.size + 2) 5 (some ⟨wr.heap.size + 1, 0, none⟩) 1 (recC ⟨xlo, xhi, xsh, nx R.ver, xju⟩)) := by
        refine ⟨rfl, fun _ => ⟨_, rfl, by show wr.heap.size + 1 < wr.heap.size + 2; omega, fun j u hu => ?_⟩⟩
        have := news_at (wr.alloc (Obj.cells #[.string xlo, .string xhi, .int .i64 xsh, .int .i64 (nx R.ver), .bool xju] 45)) 45 (recC ⟨xlo, xhi, xsh, nx R.ver, xju⟩) j u hu
        rw [size_alloc] at this
        exact this
      have hik : i + k ≤ 82 := by omega
      have H1x := Lib.hid (recC_one ⟨xlo, xhi, xsh, nx R.ver, xju⟩)
      clear hx hlc hbl I
      go_wp2_with (at_builtin; refine wpList_append_any _ rfl _ _ 28 rfl (w.heap.size + 2) 45 j0 (aggC Ch.zero) 5 56 Tryd.underlying28 hj0 hy0 hy1 hy2 rfl (by decide) (.slice A (i + k) c) (i + k) (flat recC (R.cs.take i ++ (L.map (verC (nx R.ver))).take k)) rfl K.out.own (wr.heap.size + 2) (some ⟨wr.heap.size + 1, 0, none⟩) 1 1 (recC ⟨xlo, xhi, xsh, nx R.ver, xju⟩) rfl HRx.out H1x.out (by unfold maxLen; omega) (by omega) (by simp; omega) ?_)
      intro v' w4 hown4 hg4 _
      have K4 : Hid (Rpl w ⟨KA, kn, kc, CA, cn, cc⟩ R v' (i + (k + 1)) (R.cs.take i ++ (L.map (verC (nx R.ver))).take (k + 1)) w4) := by
        refine K.out.grow hg4 ?_
        rw [List.take_add_one, List.getElem?_map, HX.out, Option.map_some, Option.toList_some, ← List.append_assoc, flat_snoc]
        exact hown4
      obtain ⟨A4, c4, rfl, _⟩ := own_slice hown4
      clear K HRx H1x hown4 hg4 g0 g1 g2 g3 g4 q4
      go_wp2_with fail
      go_roundw
      case rel => exact ⟨k + 1, A4, c4, by omega, by go_num, rfl, K4.out⟩
      case measure => simp [intOf]; omega
    · obtain rfl : k = m := by omega
      obtain ⟨b, off, hA, hbw, _⟩ := H.out.cs.sr.el (by show 0 < cn; omega)
      simp only at hA
      subst hA
      have q5 : wr.cell? ⟨w.heap.size, 5, none⟩ = some (.slice (some ⟨b, off, none⟩) cn cc) := (blk_ro I.b0).2.2.2.2.2.1
      have e1 : IntKind.i64.wrap ((i : Int) + (n : Int)) = ((i + n : Nat) : Int) := by rw [IntKind.wrap_i64]; omega
      have e2 : (0 : Int) ≤ (i : Int) + (n : Int) := by omega
      have e3 : (i : Int) + (n : Int) ≤ (cn : Int) := by omega
      have e4 : ((i : Int) + (n : Int)).toNat = i + n := by omega
      have e5 : ((i + n : Nat) : Int) = (i : Int) + (n : Int) := by omega
      rw [e5] at e1
      obtain ⟨A2', hA2, HR2⟩ : ∃ A2' : Addr, (if cc = i + n then some (⟨b, off, none⟩ : Addr) else some ⟨b, off + (i + n) * 5, none⟩) = some A2' ∧ Hid (Reads wr w.heap.size 5 (some A2') (cn - (i + n)) (flat recC (R.cs.drop (i + n)))) := by
        have hcut := (HR.out.below I.bel).cut (k := i + n) (by omega) hcc.out
        rw [flat_drop recC_length] at hcut
        by_cases hq : cc = i + n
        · rw [if_pos hq] at hcut ⊢
          exact ⟨_, rfl, hcut⟩
        · rw [if_neg hq] at hcut ⊢
          exact ⟨_, rfl, by rw [Hid]; simpa [addr_add] using hcut⟩
      have HFL := Lib.hid (flat_one recC_one (R.cs.drop (i + n)))
      have hszr : w.heap.size + 2 ≤ wr.heap.size := by omega
      have hik : i + k ≤ 82 := by omega
      clear I
      go_wp2_with (at_builtin; (first | rw [hA2] | skip); refine wpList_append_any _ rfl _ _ 28 rfl (w.heap.size + 2) 45 j0 (aggC Ch.zero) 5 56 Tryd.underlying28 hj0 hy0 hy1 hy2 rfl (by decide) (.slice A (i + k) c) (i + k) (flat recC (R.cs.take i ++ (L.map (verC (nx R.ver))).take k)) rfl J.out.own w.heap.size (some A2') (cn - (i + n)) (cc - (i + n)) (flat recC (R.cs.drop (i + n))) rfl HR2.out HFL.out (by unfold maxLen; omega) (by omega) hszr ?_)
      intro v' w5 hown5 hg5 _
      have hML : (L.map (verC (nx R.ver))).take k = L.map (verC (nx R.ver)) := List.take_of_length_le (by rw [List.length_map, ← HM.out]; exact Nat.le_refl _)
      have hlen : (repl R.cs i n (L.map (verC (nx R.ver)))).length = i + k + (cn - (i + n)) := by
        unfold repl
        rw [List.length_append, List.length_append, List.length_take, List.length_map, List.length_drop, ← hn.out, ← HM.out, Nat.min_eq_left (by omega)]
      rw [← flat_append, hML] at hown5
      have J5 : Hid (Rpl w ⟨KA, kn, kc, some ⟨b, off, none⟩, cn, cc⟩ R v' (i + k + (cn - (i + n))) (repl R.cs i n (L.map (verC (nx R.ver)))) w5) := J.out.grow hg5 hown5
      obtain ⟨A5, c5, rfl, _⟩ := own_slice hown5
      rw [← hlen] at J5 ⊢
      clear hown5 hg5 J HR2 HFL q5 hA2 e1 e2 e3 e4 e5
      generalize repl R.cs i n (L.map (verC (nx R.ver))) = Z at *
      obtain ⟨q0, q1, q2, q3, q4, q5, qz⟩ := blk_ro J5.out.b0
      simp only at q1 q5
      have hge := own_ge J5.out.own
      have G0 : Hid (Blk (w5.setCell ⟨w.heap.size, 5, none⟩ (.slice A5 Z.length c5)) w.heap.size 30 (rarr ⟨KA, kn, kc, A5, Z.length, c5⟩ R.nx)) := J5.out.b0.set_ 5 _
      have G1 : Hid (Blk (w5.setCell ⟨w.heap.size, 5, none⟩ (.slice A5 Z.length c5)) (w.heap.size + 1) 30 (rarr RA.zero Ro.zero)) := J5.out.b1.far (by show w.heap.size + 1 ≠ w.heap.size; omega) _
      have G2 := Lib.hid (own_far J5.out.own (p := ⟨w.heap.size, 5, none⟩) (fun e => by have := hge _ e; simp only at this; omega) (.slice A5 Z.length c5))
      have G4 : Hid (Below w.heap.size w (w5.setCell ⟨w.heap.size, 5, none⟩ (.slice A5 Z.length c5))) := J5.out.bel.setCell (Nat.le_refl _) _
      clear hge J5 hlen hML
      go_upto_region 11 with fail
      clear q0 q1 q2 q3 q4 q5 qz
      generalize w5.setCell ⟨w.heap.size, 5, none⟩ (.slice A5 Z.length c5) = w6 at *
      obtain ⟨q0, q1, q2, q3, q4, q5, qz⟩ := blk_ro G0.out
      simp only at q1 q5
      obtain ⟨r0, r1, r2, r3, r4, r5, rz⟩ := blk_ro G1.out
      have E0 := Lib.hid (G1.out.putR (a := ⟨KA, kn, kc, A5, Z.length, c5⟩) (R := R.nx))
      have E1 : Hid ((setR w6 (w.heap.size + 1) ⟨KA, kn, kc, A5, Z.length, c5⟩ R.nx).ownsRow w.heap.size 45 5 (.slice A5 Z.length c5) Z.length (flat recC Z)) :=
        own_mono (own_keep G2.out fun g hg => heap_setR _ _ _ _ g (by have := own_ge G2.out g hg; omega)) (by omega)
      have E2 : Hid (Below w.heap.size w (setR w6 (w.heap.size + 1) ⟨KA, kn, kc, A5, Z.length, c5⟩ R.nx)) := below_setR G4.out (by omega) _ _
      clear G0 G1 G2 G4
      go_wp2_with fail
      clear q0 q1 q2 q3 q4 q5 qz r0 r1 r2 r3 r4 r5 rz
      refine bodyPost_ret (results_ro rfl _ (w.heap.size + 1) rfl _ ⟨KA, kn, kc, A5, Z.length, c5⟩ R.nx E0.out) rfl ?_
      exact ⟨A5, c5, rfl, E1.out, E2.out⟩

end Go.Proofs.YtgcklgkhdokchaaDoor

namespace Go.Proofs.YtgcklgkhdokchaaDoor
open Go.RowKit

theorem repl_len' {α : Type} {l : List α} {i n : Nat} {new : List α} : (repl l i n new).length ≤ l.length + new.length + l.length := by unfold repl; simp; omega

set_option maxRecDepth 100000 in
set_option maxHeartbeats 800000 in
theorem rmark_any (R : Ro) (a : RA) (key : ByteArray) (j : Bool) (w : World) (h : RR w a R) (h80 : R.cs.length ≤ 80) : Calls Tryd.prog 43 #[rval a R, .string key, .bool j] w (RouOk (markR R key j) w) := by
  obtain ⟨KA, kn, kc, CA, cn, cc⟩ := a
  have H := Lib.hid h
  clear h
  have B0 : Hid (Blk ((w.alloc (Obj.cells (rarr ⟨KA, kn, kc, CA, cn, cc⟩ R) 30)).alloc (Obj.cells (rarr RA.zero Ro.zero) 30)) w.heap.size 30 (rarr ⟨KA, kn, kc, CA, cn, cc⟩ R)) := (Blk.new_at rfl).alloc _
  have B1 : Hid (Blk ((w.alloc (Obj.cells (rarr ⟨KA, kn, kc, CA, cn, cc⟩ R) 30)).alloc (Obj.cells (rarr RA.zero Ro.zero) 30)) (w.heap.size + 1) 30 (rarr RA.zero Ro.zero)) := Blk.new_at (by simp)
  have BE : Hid (Below w.heap.size w ((w.alloc (Obj.cells (rarr ⟨KA, kn, kc, CA, cn, cc⟩ R) 30)).alloc (Obj.cells (rarr RA.zero Ro.zero) 30))) := ((Below.refl _ _).alloc (Nat.le_refl _) _).alloc (by simp) _
  go_enter Tryd.func43, Tryd.ntmps43
  go_upto_region 1 with fail
  change (Code.region 1 _ _).wp _ _ _ ((w.alloc (Obj.cells (rarr ⟨KA, kn, kc, CA, cn, cc⟩ R) 30)).alloc (Obj.cells (rarr RA.zero Ro.zero) 30))
  generalize (w.alloc (Obj.cells (rarr ⟨KA, kn, kc, CA, cn, cc⟩ R) 30)).alloc (Obj.cells (rarr RA.zero Ro.zero) 30) = wa at *
  obtain ⟨q0, q1, q2, q3, q4, q5, qz⟩ := blk_ro B0.out
  simp only at q1 q5
  go_wp2_with fail
  clear q0 q1 q2 q3 q4 q5 qz
  refine (rbegin_any R ⟨KA, kn, kc, CA, cn, cc⟩ key wa (H.out.step BE.out)).mono ?_
  rintro e w2 ⟨rfl, hb1⟩
  have F0 := Lib.hid (B0.out.step hb1)
  have F1 := Lib.hid (B1.out.step hb1)
  have FE := Lib.hid (BE.out.step' hb1)
  clear hb1 B0 B1 BE
  rcases idxI_range (begB key) R.cs with ⟨hf, _⟩ | ⟨i, c, hf, hic, hin, _⟩
  · rw [hf]
    have HVE : Hid (markR R key j = (Ro.zero, 15)) := by unfold Hid markR; rw [hf]; rfl
    obtain ⟨r0, r1, r2, r3, r4, r5, rz⟩ := blk_ro F1.out
    have E := Lib.hid (change_err 15 F1.out (by omega) FE.out)
    go_wp2_with fail
    refine bodyPost_ret (results_ro_err rfl _ (w.heap.size + 1) rfl _ rfl _ RA.zero Ro.zero E.out.2) rfl ?_
    exact E.out.1.eq HVE.out
  rw [hf]
  have HV : Hid (markR R key j = if c.ju = j then (R, 0) else (⟨R.sp, R.ks, R.ha, R.ep, nx R.ver, repl R.cs i 1 [⟨c.lo, c.hi, c.sh, nx R.ver, j⟩]⟩, 0)) := by
    unfold Hid markR
    rw [if_neg (by omega), hf, Int.toNat_natCast, hic]
  have hn : Hid (cn = R.cs.length) := H.out.cs.ln
  have HIC := Lib.hid hic
  clear hic hin hf
  obtain ⟨q0, q1, q2, q3, q4, q5, qz⟩ := blk_ro F0.out
  simp only at q1 q5
  have hicn : i < cn := by rw [hn.out]; exact (List.getElem?_eq_some_iff.1 HIC.out).1
  have hnk : Hid (i + 1 ≤ R.cs.length) := (List.getElem?_eq_some_iff.1 HIC.out).1
  obtain ⟨b, off, x, hA, hbl, hx, e0, e1, e2, e3, e4⟩ := H.out.cs.sr.at5 hicn
  rw [HIC.out] at hx
  injection hx with hx
  subst hx
  simp only at hA
  subst hA
  have bc := fun o => FE.out.cell (p := ⟨b, o, none⟩) hbl
  replace e0 := (bc _).trans e0
  replace e1 := (bc _).trans e1
  replace e2 := (bc _).trans e2
  replace e3 := (bc _).trans e3
  replace e4 := (bc _).trans e4
  clear bc
  obtain ⟨clo, chi, csh, cver, cju⟩ := c
  simp only at e0 e1 e2 e3 e4 HV
  cases hju : (cju == j)
  rotate_left
  · have HV2 : Hid (markR R key j = (R, 0)) := by rw [Hid, HV.out, if_pos (by simpa using hju)]
    go_upto_region 6 with fail
    clear q0 q1 q2 q3 q4 q5 qz e0 e1 e2 e3 e4
    have hU : w.heap.size + 1 < w2.heap.size := F1.out.lt
    have P0 := Lib.hid (F0.out.alloc (Obj.cells #[.string clo, .string chi, .int .i64 csh, .int .i64 cver, .bool cju] 45))
    have P1 := Lib.hid (F1.out.alloc (Obj.cells #[.string clo, .string chi, .int .i64 csh, .int .i64 cver, .bool cju] 45))
    have PE := Lib.hid (FE.out.alloc FE.out.size (Obj.cells #[.string clo, .string chi, .int .i64 csh, .int .i64 cver, .bool cju] 45))
    have PC : Hid (Blk (w2.alloc (Obj.cells #[.string clo, .string chi, .int .i64 csh, .int .i64 cver, .bool cju] 45)) w2.heap.size 45 #[.string clo, .string chi, .int .i64 csh, .int .i64 cver, .bool cju]) := Blk.new_at rfl
    change (Code.region 6 _ _).wp _ _ _ (w2.alloc (Obj.cells #[.string clo, .string chi, .int .i64 csh, .int .i64 cver, .bool cju] 45))
    generalize w2.alloc (Obj.cells #[.string clo, .string chi, .int .i64 csh, .int .i64 cver, .bool cju] 45) = w3 at *
    generalize w2.heap.size = U at *
    have u0 := PC.out.cell 0
    have u1 := PC.out.cell 1
    have u2 := PC.out.cell 2
    have u3 := PC.out.cell 3
    have u4 := PC.out.cell 4
    simp at u0 u1 u2 u3 u4
    obtain ⟨q0, q1, q2, q3, q4, q5, qz⟩ := blk_ro P0.out
    simp only at q1 q5
    obtain ⟨r0, r1, r2, r3, r4, r5, rz⟩ := blk_ro P1.out
    have E0 := Lib.hid (P1.out.putR (a := ⟨KA, kn, kc, some ⟨b, off, none⟩, cn, cc⟩) (R := R))
    have E1 : Hid (RR (setR w3 (w.heap.size + 1) ⟨KA, kn, kc, some ⟨b, off, none⟩, cn, cc⟩ R) ⟨KA, kn, kc, some ⟨b, off, none⟩, cn, cc⟩ R) := H.out.step (below_setR PE.out (by omega) _ _)
    have E2 : Hid (Below w.heap.size w (setR w3 (w.heap.size + 1) ⟨KA, kn, kc, some ⟨b, off, none⟩, cn, cc⟩ R)) := below_setR PE.out (by omega) _ _
    go_wp2_with fail
    clear q0 q1 q2 q3 q4 q5 qz r0 r1 r2 r3 r4 r5 rz
    refine bodyPost_ret (results_ro_err rfl _ (w.heap.size + 1) rfl _ rfl _ ⟨KA, kn, kc, some ⟨b, off, none⟩, cn, cc⟩ R E0.out) rfl ?_
    exact RouOk.eq HV2.out ⟨⟨KA, kn, kc, some ⟨b, off, none⟩, cn, cc⟩, rfl, E1.out, E2.out⟩
  have HVS : Hid (markR R key j = (⟨R.sp, R.ks, R.ha, R.ep, nx R.ver, repl R.cs i 1 [⟨clo, chi, csh, nx R.ver, j⟩]⟩, 0)) := by rw [Hid, HV.out, if_neg (by simpa using hju)]
  go_upto_region 8 with fail
  clear q0 q1 q2 q3 q4 q5 qz e0 e1 e2 e3 e4
  have hU : w.heap.size + 1 < w2.heap.size := F1.out.lt
  have P0 := Lib.hid (F0.out.alloc (Obj.cells #[.string clo, .string chi, .int .i64 csh, .int .i64 cver, .bool j] 45))
  have P1 := Lib.hid (F1.out.alloc (Obj.cells #[.string clo, .string chi, .int .i64 csh, .int .i64 cver, .bool j] 45))
  have PE := Lib.hid (FE.out.alloc FE.out.size (Obj.cells #[.string clo, .string chi, .int .i64 csh, .int .i64 cver, .bool j] 45))
  have PC : Hid (Blk (w2.alloc (Obj.cells #[.string clo, .string chi, .int .i64 csh, .int .i64 cver, .bool j] 45)) w2.heap.size 45 #[.string clo, .string chi, .int .i64 csh, .int .i64 cver, .bool j]) := Blk.new_at rfl
  change (Code.region 8 _ _).wp _ _ _ (w2.alloc (Obj.cells #[.string clo, .string chi, .int .i64 csh, .int .i64 cver, .bool j] 45))
  generalize w2.alloc (Obj.cells #[.string clo, .string chi, .int .i64 csh, .int .i64 cver, .bool j] 45) = w3 at *
  generalize w2.heap.size = U at *
  have u0 := PC.out.cell 0
  have u1 := PC.out.cell 1
  have u2 := PC.out.cell 2
  have u3 := PC.out.cell 3
  have u4 := PC.out.cell 4
  simp at u0 u1 u2 u3 u4
  obtain ⟨q0, q1, q2, q3, q4, q5, qz⟩ := blk_ro P0.out
  simp only at q1 q5
  have AL := Lib.hid ((Below.refl w3.heap.size w3).alloc (Nat.le_refl _) (Obj.cells #[.string clo, .string chi, .int .i64 csh, .int .i64 cver, .bool j] 45))
  have HLB : Hid (Blk (w3.alloc (Obj.cells #[.string clo, .string chi, .int .i64 csh, .int .i64 cver, .bool j] 45)) w3.heap.size 45 (flat recC [⟨clo, chi, csh, cver, j⟩]).toArray) := Blk.new_at rfl
  have G0 := Lib.hid (P0.out.step AL.out)
  have G1 := Lib.hid (P1.out.step AL.out)
  have GE := Lib.hid (PE.out.step' AL.out)
  have HRP := Lib.hid (replace_any R ⟨KA, kn, kc, some ⟨b, off, none⟩, cn, cc⟩ i 1 w3.heap.size [⟨clo, chi, csh, cver, j⟩] (i : Nat) (1 : Nat) (w3.alloc (Obj.cells #[.string clo, .string chi, .int .i64 csh, .int .i64 cver, .bool j] 45)) (H.out.step GE.out) HLB.out hnk.out (by decide) (by simp) h80 rfl rfl)
  clear AL HLB
  go_wp2_with fail
  clear q0 q1 q2 q3 q4 q5 qz u0 u1 u2 u3 u4
  refine HRP.out.mono ?_
  rintro e w5 ⟨A5, c5, rfl, hown, hb5⟩
  have hG1 := G1.out.lt
  have hlen : (repl R.cs i 1 [⟨clo, chi, csh, nx R.ver, j⟩]).length * 56 ≤ reach := by
    have hrl := repl_len' (l := R.cs) (i := i) (n := 1) (new := [⟨clo, chi, csh, nx R.ver, j⟩])
    unfold reach
    simp only [List.length_cons, List.length_nil] at hrl
    omega
  have E := Lib.hid (change_end (lo := (w3.alloc (Obj.cells #[.string clo, .string chi, .int .i64 csh, .int .i64 cver, .bool j] 45)).heap.size) (R := ⟨R.sp, R.ks, R.ha, R.ep, nx R.ver, repl R.cs i 1 [⟨clo, chi, csh, nx R.ver, j⟩]⟩) (a := ⟨KA, kn, kc, A5, (repl R.cs i 1 [⟨clo, chi, csh, nx R.ver, j⟩]).length, c5⟩) rfl (G1.out.step hb5) (by omega) hG1 H.out.sp ((H.out.ks.toB (GE.out.step' hb5)).keep (Nat.le_refl _) fun b hF _ => ⟨.inl hF, rfl⟩) hown rfl hlen (GE.out.step' hb5))
  obtain ⟨r0, r1, r2, r3, r4, r5, rz⟩ := blk_ro (G1.out.step hb5)
  clear hown hb5 G0 G1 GE HRP
  go_wp2_with fail
  clear r0 r1 r2 r3 r4 r5 rz
  refine bodyPost_ret (results_ro_err rfl _ (w.heap.size + 1) rfl _ rfl _ ⟨KA, kn, kc, A5, (repl R.cs i 1 [⟨clo, chi, csh, nx R.ver, j⟩]).length, c5⟩ ⟨R.sp, R.ks, R.ha, R.ep, nx R.ver, repl R.cs i 1 [⟨clo, chi, csh, nx R.ver, j⟩]⟩ E.out.2) rfl ?_
  exact E.out.1.eq HVS.out

end Go.Proofs.YtgcklgkhdokchaaDoor

namespace Go.Proofs.YtgcklgkhdokchaaDoor
open Go.RowKit

set_option maxRecDepth 100000 in
set_option maxHeartbeats 800000 in
theorem rsplit_any (R : Ro) (a : RA) (key : ByteArray) (w : World) (h : RR w a R) (h80 : R.cs.length ≤ 80) : Calls Tryd.prog 40 #[rval a R, .string key] w (RouOk (splitR R key) w) := by
  obtain ⟨KA, kn, kc, CA, cn, cc⟩ := a
  have H := Lib.hid h
  clear h
  have B0 : Hid (Blk ((w.alloc (Obj.cells (rarr ⟨KA, kn, kc, CA, cn, cc⟩ R) 30)).alloc (Obj.cells (rarr RA.zero Ro.zero) 30)) w.heap.size 30 (rarr ⟨KA, kn, kc, CA, cn, cc⟩ R)) := (Blk.new_at rfl).alloc _
  have B1 : Hid (Blk ((w.alloc (Obj.cells (rarr ⟨KA, kn, kc, CA, cn, cc⟩ R) 30)).alloc (Obj.cells (rarr RA.zero Ro.zero) 30)) (w.heap.size + 1) 30 (rarr RA.zero Ro.zero)) := Blk.new_at (by simp)
  have BE : Hid (Below w.heap.size w ((w.alloc (Obj.cells (rarr ⟨KA, kn, kc, CA, cn, cc⟩ R) 30)).alloc (Obj.cells (rarr RA.zero Ro.zero) 30))) := ((Below.refl _ _).alloc (Nat.le_refl _) _).alloc (by simp) _
  go_enter Tryd.func40, Tryd.ntmps40
  go_upto_region 1 with fail
  change (Code.region 1 _ _).wp _ _ _ ((w.alloc (Obj.cells (rarr ⟨KA, kn, kc, CA, cn, cc⟩ R) 30)).alloc (Obj.cells (rarr RA.zero Ro.zero) 30))
  generalize (w.alloc (Obj.cells (rarr ⟨KA, kn, kc, CA, cn, cc⟩ R) 30)).alloc (Obj.cells (rarr RA.zero Ro.zero) 30) = wa at *
  obtain ⟨q0, q1, q2, q3, q4, q5, qz⟩ := blk_ro B0.out
  simp only at q1 q5
  go_wp2_with fail
  clear q0 q1 q2 q3 q4 q5 qz
  refine (rfind_any R ⟨KA, kn, kc, CA, cn, cc⟩ key wa (H.out.step BE.out)).mono ?_
  rintro e w1 ⟨rfl, hb1⟩
  have D0 := Lib.hid (B0.out.step hb1)
  have D1 := Lib.hid (B1.out.step hb1)
  have DE := Lib.hid (BE.out.step' hb1)
  clear hb1 B0 B1 BE
  cases hk0 : (key.toList == [])
  rotate_left
  · have HVE : Hid (splitR R key = (Ro.zero, 1)) := by unfold Hid splitR; rw [if_pos (.inl (by simpa using hk0))]
    obtain ⟨r0, r1, r2, r3, r4, r5, rz⟩ := blk_ro D1.out
    have E := Lib.hid (change_err 1 D1.out (by omega) DE.out)
    go_wp2_with fail
    refine bodyPost_ret (results_ro_err rfl _ (w.heap.size + 1) rfl _ rfl _ RA.zero Ro.zero E.out.2) rfl ?_
    exact E.out.1.eq HVE.out
  rcases idxI_range (inB key) R.cs with ⟨hf, _⟩ | ⟨i, c, hf, hic, hin, _⟩
  · have hf' : idxI (inB key) R.cs < 0 := by omega
    rw [hf]
    clear hf
    have HVE : Hid (splitR R key = (Ro.zero, 1)) := by unfold Hid splitR; rw [if_pos (.inr (.inr hf'))]
    obtain ⟨r0, r1, r2, r3, r4, r5, rz⟩ := blk_ro D1.out
    have E := Lib.hid (change_err 1 D1.out (by omega) DE.out)
    go_wp2_with fail
    refine bodyPost_ret (results_ro_err rfl _ (w.heap.size + 1) rfl _ rfl _ RA.zero Ro.zero E.out.2) rfl ?_
    exact E.out.1.eq HVE.out
  rw [hf]
  have HF0 := Lib.hid hf
  have HIC0 := Lib.hid hic
  have HIN0 := Lib.hid hin
  clear hf hic hin
  obtain ⟨q0, q1, q2, q3, q4, q5, qz⟩ := blk_ro D0.out
  simp only at q1 q5
  go_wp2_with fail
  clear q0 q1 q2 q3 q4 q5 qz
  refine (rbegin_any R ⟨KA, kn, kc, CA, cn, cc⟩ key w1 (H.out.step DE.out)).mono ?_
  rintro e w2 ⟨rfl, hb2⟩
  have F0 := Lib.hid (D0.out.step hb2)
  have F1 := Lib.hid (D1.out.step hb2)
  have FE := Lib.hid (DE.out.step' hb2)
  clear hb2 D0 D1 DE
  by_cases hbg : 0 ≤ idxI (begB key) R.cs
  · have HVE : Hid (splitR R key = (Ro.zero, 1)) := by unfold Hid splitR; rw [if_pos (.inr (.inl hbg))]
    obtain ⟨r0, r1, r2, r3, r4, r5, rz⟩ := blk_ro F1.out
    have E := Lib.hid (change_err 1 F1.out (by omega) FE.out)
    go_wp2_with fail
    refine bodyPost_ret (results_ro_err rfl _ (w.heap.size + 1) rfl _ rfl _ RA.zero Ro.zero E.out.2) rfl ?_
    exact E.out.1.eq HVE.out
  have hf := HF0.out
  have hic := HIC0.out
  have hin := HIN0.out
  have HV : Hid (splitR R key = if 64 ≤ R.cs.length then (Ro.zero, 2) else if c.ju then (Ro.zero, 23) else (⟨R.sp, R.ks, R.ha, R.ep, nx R.ver, repl R.cs i 1 [⟨c.lo, key, c.sh, nx R.ver, c.ju⟩, ⟨key, c.hi, c.sh, nx R.ver, c.ju⟩]⟩, 0)) := by
    unfold Hid splitR
    rw [if_neg (by rintro (h | h | h); simp [h] at hk0; exact hbg h; omega), hf, Int.toNat_natCast, hic]
  have hn : Hid (cn = R.cs.length) := H.out.cs.ln
  have HIC := Lib.hid hic
  clear hic hin hf
  obtain ⟨q0, q1, q2, q3, q4, q5, qz⟩ := blk_ro F0.out
  simp only at q1 q5
  have hicn : i < cn := by rw [hn.out]; exact (List.getElem?_eq_some_iff.1 HIC.out).1
  have hnk : Hid (i + 1 ≤ R.cs.length) := (List.getElem?_eq_some_iff.1 HIC.out).1
  obtain ⟨b, off, x, hA, hbl, hx, e0, e1, e2, e3, e4⟩ := H.out.cs.sr.at5 hicn
  rw [HIC.out] at hx
  injection hx with hx
  subst hx
  simp only at hA
  subst hA
  have bc := fun o => FE.out.cell (p := ⟨b, o, none⟩) hbl
  replace e0 := (bc _).trans e0
  replace e1 := (bc _).trans e1
  replace e2 := (bc _).trans e2
  replace e3 := (bc _).trans e3
  replace e4 := (bc _).trans e4
  clear bc
  obtain ⟨clo, chi, csh, cver, cju⟩ := c
  simp only at e0 e1 e2 e3 e4 HV
  by_cases h64 : 64 ≤ cn
  · have HVE : Hid (splitR R key = (Ro.zero, 2)) := by rw [Hid, HV.out, if_pos (by rw [← hn.out]; exact h64)]
    obtain ⟨r0, r1, r2, r3, r4, r5, rz⟩ := blk_ro F1.out
    have E := Lib.hid (change_err 2 F1.out (by omega) FE.out)
    go_wp2_with fail
    refine bodyPost_ret (results_ro_err rfl _ (w.heap.size + 1) rfl _ rfl _ RA.zero Ro.zero E.out.2) rfl ?_
    exact E.out.1.eq HVE.out
  cases cju
  rotate_left
  · have HVE : Hid (splitR R key = (Ro.zero, 23)) := by rw [Hid, HV.out, if_neg (by rw [← hn.out]; omega), if_pos rfl]
    obtain ⟨r0, r1, r2, r3, r4, r5, rz⟩ := blk_ro F1.out
    have E := Lib.hid (change_err 23 F1.out (by omega) FE.out)
    go_wp2_with fail
    refine bodyPost_ret (results_ro_err rfl _ (w.heap.size + 1) rfl _ rfl _ RA.zero Ro.zero E.out.2) rfl ?_
    exact E.out.1.eq HVE.out
  have HVS : Hid (splitR R key = (⟨R.sp, R.ks, R.ha, R.ep, nx R.ver, repl R.cs i 1 [⟨clo, key, csh, nx R.ver, false⟩, ⟨key, chi, csh, nx R.ver, false⟩]⟩, 0)) := by
    rw [Hid, HV.out, if_neg (by rw [← hn.out]; omega), if_neg (by simp)]
  have hNa : w.heap.size < w2.heap.size := F0.out.lt
  have hNb : w.heap.size < w2.heap.size + 1 := by omega
  have hNf : w.heap.size + 1 < w2.heap.size := F1.out.lt
  have hb2 : b < w2.heap.size := by have := FE.out.size; omega
  have hb3' : b < w2.heap.size + 1 := by omega
  go_upto_region 8 with fail
  go_cut [7, 8] (fun v7 v8 wx => ∃ gl gu : Nat, v7 = .pointer (some ⟨gl, 0, none⟩) ∧ v8 = .pointer (some ⟨gu, 0, none⟩) ∧ Blk wx gl 45 #[.string clo, .string chi, .int .i64 csh, .int .i64 cver, .bool false] ∧ Blk wx gu 45 #[.string clo, .string chi, .int .i64 csh, .int .i64 cver, .bool false] ∧ w2.heap.size ≤ gl ∧ w2.heap.size ≤ gu ∧ gl ≠ gu ∧ Below w2.heap.size w2 wx)
  case first =>
    go_region
    all_goals (go_wp2_with fail; go_meet)
    all_goals first
      | exact ⟨w2.heap.size, w2.heap.size + 1, rfl, rfl, (Blk.new_at rfl).alloc _, Blk.new_at (by simp), by omega, by omega, by omega, (((Below.refl _ _).alloc (Nat.le_refl _) _).alloc (by simp) _).drew⟩
      | exact ⟨w2.heap.size + 1, w2.heap.size, rfl, rfl, Blk.new_at (by simp), (Blk.new_at rfl).alloc _, by omega, by omega, by omega, (((Below.refl _ _).alloc (Nat.le_refl _) _).alloc (by simp) _).drew⟩
  case rest =>
    obtain ⟨gl, gu, rfl, rfl, L0, U0, hgl, hgu, hglu, hbc⟩ := hcut
    have P0 := Lib.hid (F0.out.step hbc)
    have P1 := Lib.hid (F1.out.step hbc)
    have PE := Lib.hid (FE.out.step' hbc)
    have PL := Lib.hid L0
    have PU := Lib.hid U0
    clear q0 q1 q2 q3 q4 q5 qz e0 e1 e2 e3 e4 hbc L0 U0 F0 F1 FE hb2 hb3' hNa hNb
    have QL : Hid (Blk ((wc.setCell ⟨gl, 1, none⟩ (.string key)).setCell ⟨gu, 0, none⟩ (.string key)) gl 45 #[.string clo, .string key, .int .i64 csh, .int .i64 cver, .bool false]) := (PL.out.set_ 1 _).far (by show gl ≠ gu; exact hglu) _
    have QU : Hid (Blk ((wc.setCell ⟨gl, 1, none⟩ (.string key)).setCell ⟨gu, 0, none⟩ (.string key)) gu 45 #[.string key, .string chi, .int .i64 csh, .int .i64 cver, .bool false]) := (PU.out.far (by show gu ≠ gl; exact fun e => hglu e.symm) _).set_ 0 _
    have Q0 : Hid (Blk ((wc.setCell ⟨gl, 1, none⟩ (.string key)).setCell ⟨gu, 0, none⟩ (.string key)) w.heap.size 30 (rarr ⟨KA, kn, kc, some ⟨b, off, none⟩, cn, cc⟩ R)) := (P0.out.far (by show w.heap.size ≠ gl; omega) _).far (by show w.heap.size ≠ gu; omega) _
    have Q1 : Hid (Blk ((wc.setCell ⟨gl, 1, none⟩ (.string key)).setCell ⟨gu, 0, none⟩ (.string key)) (w.heap.size + 1) 30 (rarr RA.zero Ro.zero)) := (P1.out.far (by show w.heap.size + 1 ≠ gl; omega) _).far (by show w.heap.size + 1 ≠ gu; omega) _
    have QE : Hid (Below w.heap.size w ((wc.setCell ⟨gl, 1, none⟩ (.string key)).setCell ⟨gu, 0, none⟩ (.string key))) := (PE.out.setCell (by show w.heap.size ≤ gl; omega) _).setCell (by show w.heap.size ≤ gu; omega) _
    have l1 := PL.out.cell 1
    have u0 := PU.out.cell 0
    have zl := PL.out.frozen 1
    have zu := PU.out.frozen 0
    simp at l1 u0
    have hgne : gu ≠ gl := fun e => hglu e.symm
    go_upto_region 11 with fail
    clear l1 u0 zl zu P0 P1 PE PL PU
    change (Code.region 11 _ _).wp _ _ _ ((wc.setCell ⟨gl, 1, none⟩ (.string key)).setCell ⟨gu, 0, none⟩ (.string key))
    generalize (wc.setCell ⟨gl, 1, none⟩ (.string key)).setCell ⟨gu, 0, none⟩ (.string key) = w3 at *
    have l0 := QL.out.cell 0
    have l1 := QL.out.cell 1
    have l2 := QL.out.cell 2
    have l3 := QL.out.cell 3
    have l4 := QL.out.cell 4
    have u0 := QU.out.cell 0
    have u1 := QU.out.cell 1
    have u2 := QU.out.cell 2
    have u3 := QU.out.cell 3
    have u4 := QU.out.cell 4
    simp at l0 l1 l2 l3 l4 u0 u1 u2 u3 u4
    obtain ⟨q0, q1, q2, q3, q4, q5, qz⟩ := blk_ro Q0.out
    simp only at q1 q5
    have AL := Lib.hid ((Below.refl w3.heap.size w3).alloc (Nat.le_refl _) (Obj.cells #[.string clo, .string key, .int .i64 csh, .int .i64 cver, .bool false, .string key, .string chi, .int .i64 csh, .int .i64 cver, .bool false] 45))
    have HLB : Hid (Blk (w3.alloc (Obj.cells #[.string clo, .string key, .int .i64 csh, .int .i64 cver, .bool false, .string key, .string chi, .int .i64 csh, .int .i64 cver, .bool false] 45)) w3.heap.size 45 (flat recC [⟨clo, key, csh, cver, false⟩, ⟨key, chi, csh, cver, false⟩]).toArray) := Blk.new_at rfl
    have G0 := Lib.hid (Q0.out.step AL.out)
    have G1 := Lib.hid (Q1.out.step AL.out)
    have GE := Lib.hid (QE.out.step' AL.out)
    have HRP := Lib.hid (replace_any R ⟨KA, kn, kc, some ⟨b, off, none⟩, cn, cc⟩ i 1 w3.heap.size [⟨clo, key, csh, cver, false⟩, ⟨key, chi, csh, cver, false⟩] (i : Nat) (1 : Nat) (w3.alloc (Obj.cells #[.string clo, .string key, .int .i64 csh, .int .i64 cver, .bool false, .string key, .string chi, .int .i64 csh, .int .i64 cver, .bool false] 45)) (H.out.step GE.out) HLB.out hnk.out (by decide) (by simp) h80 rfl rfl)
    clear AL HLB
    go_wp2_with fail
    clear q0 q1 q2 q3 q4 q5 qz l0 l1 l2 l3 l4 u0 u1 u2 u3 u4
    refine HRP.out.mono ?_
    rintro e w5 ⟨A5, c5, rfl, hown, hb5⟩
    have hG1 := G1.out.lt
    have hlen : (repl R.cs i 1 [⟨clo, key, csh, nx R.ver, false⟩, ⟨key, chi, csh, nx R.ver, false⟩]).length * 56 ≤ reach := by
      have hrl := repl_len' (l := R.cs) (i := i) (n := 1) (new := [⟨clo, key, csh, nx R.ver, false⟩, ⟨key, chi, csh, nx R.ver, false⟩])
      unfold reach
      simp only [List.length_cons, List.length_nil] at hrl
      omega
    have E := Lib.hid (change_end (lo := (w3.alloc (Obj.cells #[.string clo, .string key, .int .i64 csh, .int .i64 cver, .bool false, .string key, .string chi, .int .i64 csh, .int .i64 cver, .bool false] 45)).heap.size) (R := ⟨R.sp, R.ks, R.ha, R.ep, nx R.ver, repl R.cs i 1 [⟨clo, key, csh, nx R.ver, false⟩, ⟨key, chi, csh, nx R.ver, false⟩]⟩) (a := ⟨KA, kn, kc, A5, (repl R.cs i 1 [⟨clo, key, csh, nx R.ver, false⟩, ⟨key, chi, csh, nx R.ver, false⟩]).length, c5⟩) rfl (G1.out.step hb5) (by omega) hG1 H.out.sp ((H.out.ks.toB (GE.out.step' hb5)).keep (Nat.le_refl _) fun b hF _ => ⟨.inl hF, rfl⟩) hown rfl hlen (GE.out.step' hb5))
    obtain ⟨r0, r1, r2, r3, r4, r5, rz⟩ := blk_ro (G1.out.step hb5)
    clear hown hb5 G0 G1 GE HRP
    go_wp2_with fail
    clear r0 r1 r2 r3 r4 r5 rz
    refine bodyPost_ret (results_ro_err rfl _ (w.heap.size + 1) rfl _ rfl _ ⟨KA, kn, kc, A5, (repl R.cs i 1 [⟨clo, key, csh, nx R.ver, false⟩, ⟨key, chi, csh, nx R.ver, false⟩]).length, c5⟩ ⟨R.sp, R.ks, R.ha, R.ep, nx R.ver, repl R.cs i 1 [⟨clo, key, csh, nx R.ver, false⟩, ⟨key, chi, csh, nx R.ver, false⟩]⟩ E.out.2) rfl ?_
    exact E.out.1.eq HVS.out

end Go.Proofs.YtgcklgkhdokchaaDoor

namespace Go.Proofs.YtgcklgkhdokchaaDoor
open Go.RowKit

set_option maxRecDepth 100000 in
set_option maxHeartbeats 800000 in
theorem rjoin_any (R : Ro) (a : RA) (key : ByteArray) (w : World) (h : RR w a R) (h80 : R.cs.length ≤ 80) : Calls Tryd.prog 41 #[rval a R, .string key] w (RouOk (joinR R key) w) := by
  obtain ⟨KA, kn, kc, CA, cn, cc⟩ := a
  have H := Lib.hid h
  clear h
  have B0 : Hid (Blk ((w.alloc (Obj.cells (rarr ⟨KA, kn, kc, CA, cn, cc⟩ R) 30)).alloc (Obj.cells (rarr RA.zero Ro.zero) 30)) w.heap.size 30 (rarr ⟨KA, kn, kc, CA, cn, cc⟩ R)) := (Blk.new_at rfl).alloc _
  have B1 : Hid (Blk ((w.alloc (Obj.cells (rarr ⟨KA, kn, kc, CA, cn, cc⟩ R) 30)).alloc (Obj.cells (rarr RA.zero Ro.zero) 30)) (w.heap.size + 1) 30 (rarr RA.zero Ro.zero)) := Blk.new_at (by simp)
  have BE : Hid (Below w.heap.size w ((w.alloc (Obj.cells (rarr ⟨KA, kn, kc, CA, cn, cc⟩ R) 30)).alloc (Obj.cells (rarr RA.zero Ro.zero) 30))) := ((Below.refl _ _).alloc (Nat.le_refl _) _).alloc (by simp) _
  go_enter Tryd.func41, Tryd.ntmps41
  go_upto_region 1 with fail
  change (Code.region 1 _ _).wp _ _ _ ((w.alloc (Obj.cells (rarr ⟨KA, kn, kc, CA, cn, cc⟩ R) 30)).alloc (Obj.cells (rarr RA.zero Ro.zero) 30))
  generalize (w.alloc (Obj.cells (rarr ⟨KA, kn, kc, CA, cn, cc⟩ R) 30)).alloc (Obj.cells (rarr RA.zero Ro.zero) 30) = wa at *
  obtain ⟨q0, q1, q2, q3, q4, q5, qz⟩ := blk_ro B0.out
  simp only at q1 q5
  go_wp2_with fail
  clear q0 q1 q2 q3 q4 q5 qz
  refine (rbegin_any R ⟨KA, kn, kc, CA, cn, cc⟩ key wa (H.out.step BE.out)).mono ?_
  rintro e w2 ⟨rfl, hb1⟩
  have F0 := Lib.hid (B0.out.step hb1)
  have F1 := Lib.hid (B1.out.step hb1)
  have FE := Lib.hid (BE.out.step' hb1)
  clear hb1 B0 B1 BE
  by_cases hlt : idxI (begB key) R.cs < 1
  · have hlt' : (idxI (begB key) R.cs < 1) = True := by simp; omega
    have HVE : Hid (joinR R key = (Ro.zero, 15)) := by unfold Hid joinR; rw [if_pos hlt]
    obtain ⟨r0, r1, r2, r3, r4, r5, rz⟩ := blk_ro F1.out
    have E := Lib.hid (change_err 15 F1.out (by omega) FE.out)
    go_wp2_with fail
    refine bodyPost_ret (results_ro_err rfl _ (w.heap.size + 1) rfl _ rfl _ RA.zero Ro.zero E.out.2) rfl ?_
    exact E.out.1.eq HVE.out
  rcases idxI_range (begB key) R.cs with ⟨hf, _⟩ | ⟨i, c, hf, hic, hin, _⟩
  · omega
  obtain ⟨k, rfl⟩ : ∃ k, i = k + 1 := ⟨i - 1, by omega⟩
  have hn : Hid (cn = R.cs.length) := H.out.cs.ln
  have hicn : k + 1 < cn := by rw [hn.out]; exact (List.getElem?_eq_some_iff.1 hic).1
  obtain ⟨d, hd⟩ : ∃ d, R.cs[k]? = some d := ⟨_, List.getElem?_eq_getElem (by rw [← hn.out]; omega)⟩
  have HV : Hid (joinR R key = if d.sh ≠ c.sh ∨ d.ju = true ∨ c.ju = true then (Ro.zero, 23) else (⟨R.sp, R.ks, R.ha, R.ep, nx R.ver, repl R.cs k 2 [⟨d.lo, c.hi, d.sh, nx R.ver, d.ju⟩]⟩, 0)) := by
    unfold Hid joinR
    rw [if_neg hlt, hf, Int.toNat_natCast, hic, show k + 1 - 1 = k by omega, hd]
  have HIC := Lib.hid hic
  have HD := Lib.hid hd
  have hnk : Hid (k + 2 ≤ R.cs.length) := (List.getElem?_eq_some_iff.1 hic).1
  rw [hf]
  clear hlt hic hin hf hd
  obtain ⟨q0, q1, q2, q3, q4, q5, qz⟩ := blk_ro F0.out
  simp only at q1 q5
  obtain ⟨b, off, x, hA, hbl, hx, e0, e1, e2, e3, e4⟩ := H.out.cs.sr.at5 (i := k) (by show k < cn; omega)
  rw [HD.out] at hx
  injection hx with hx
  subst hx
  simp only at hA
  subst hA
  obtain ⟨b', off', x, hA, _, hx, u0, u1, u2, u3, u4⟩ := H.out.cs.sr.at5 (i := k + 1) hicn
  rw [HIC.out] at hx
  injection hx with hx
  subst hx
  simp only at hA
  injection hA with hA
  injection hA with hA1 hA2
  subst hA1 hA2
  have bc := fun o => FE.out.cell (p := ⟨b, o, none⟩) hbl
  replace e0 := (bc _).trans e0
  replace e1 := (bc _).trans e1
  replace e2 := (bc _).trans e2
  replace e3 := (bc _).trans e3
  replace e4 := (bc _).trans e4
  replace u0 := (bc _).trans u0
  replace u1 := (bc _).trans u1
  replace u2 := (bc _).trans u2
  replace u3 := (bc _).trans u3
  replace u4 := (bc _).trans u4
  have hb2 : b < w2.heap.size := by have := FE.out.size; omega
  have hb3' : b < w2.heap.size + 1 := by omega
  clear bc
  obtain ⟨dlo, dhi, dsh, dver, dju⟩ := d
  obtain ⟨clo, chi, csh, cver, cju⟩ := c
  simp only at e0 e1 e2 e3 e4 u0 u1 u2 u3 u4 HV
  have hk0 : (0 : Int) ≤ (k : Int) := by omega
  have hk1 : (k : Int) < (cn : Int) := by omega
  have hk2 : (k : Int) + 1 < (cn : Int) := by omega
  have hk3 : ((k : Int) + 1).toNat = k + 1 := by omega
  have hk4 : (0 : Int) ≤ (k : Int) + 1 := by omega
  have hk5 : IntKind.i64.wrap ((k : Int) + 1 - 1) = (k : Int) := by
    have := H.out.cs.sz
    unfold reach at this
    rw [IntKind.wrap_i64]
    simp only at this
    omega
  have hkn : cn ≤ 140737488355328 := by have := H.out.cs.sz; unfold reach at this; simp only at this; omega
  have hk6 : IntKind.i64.wrap (k : Int) = (k : Int) := by rw [IntKind.wrap_i64]; omega
  have hNa : w.heap.size < w2.heap.size := F0.out.lt
  have hNb : w.heap.size < w2.heap.size + 1 := by omega
  go_upto_region 4 with fail
  go_cut [7, 8] (fun v7 v8 wx => ∃ gl gu : Nat, v7 = .pointer (some ⟨gl, 0, none⟩) ∧ v8 = .pointer (some ⟨gu, 0, none⟩) ∧ Blk wx gl 45 #[.string dlo, .string dhi, .int .i64 dsh, .int .i64 dver, .bool dju] ∧ Blk wx gu 45 #[.string clo, .string chi, .int .i64 csh, .int .i64 cver, .bool cju] ∧ w2.heap.size ≤ gl ∧ w2.heap.size ≤ gu ∧ gl ≠ gu ∧ Below w2.heap.size w2 wx)
  case first =>
    go_region
    all_goals (go_wp2_with fail; go_meet)
    all_goals first
      | exact ⟨w2.heap.size, w2.heap.size + 1, rfl, rfl, (Blk.new_at rfl).alloc _, Blk.new_at (by simp), by omega, by omega, by omega, (((Below.refl _ _).alloc (Nat.le_refl _) _).alloc (by simp) _).drew⟩
      | exact ⟨w2.heap.size + 1, w2.heap.size, rfl, rfl, Blk.new_at (by simp), (Blk.new_at rfl).alloc _, by omega, by omega, by omega, (((Below.refl _ _).alloc (Nat.le_refl _) _).alloc (by simp) _).drew⟩
  case rest =>
    obtain ⟨gl, gu, rfl, rfl, L0, U0, hgl, hgu, hglu, hbc⟩ := hcut
    have hNf : w.heap.size + 1 < w2.heap.size := F1.out.lt
    have P0 := Lib.hid (F0.out.step hbc)
    have P1 := Lib.hid (F1.out.step hbc)
    have PE := Lib.hid (FE.out.step' hbc)
    have PL := Lib.hid L0
    have PU := Lib.hid U0
    clear q0 q1 q2 q3 q4 q5 qz e0 e1 e2 e3 e4 u0 u1 u2 u3 u4 hbc L0 U0 F0 F1 FE hb2 hb3' hNa hNb
    have l2 := PL.out.cell 2
    have l4 := PL.out.cell 4
    have u2 := PU.out.cell 2
    have u4 := PU.out.cell 4
    simp at l2 l4 u2 u4
    cases hsh : (dsh != csh)
    rotate_left
    · have hsh' : dsh ≠ csh := by simpa using hsh
      have HVE : Hid (joinR R key = (Ro.zero, 23)) := by rw [Hid, HV.out, if_pos (.inl hsh')]
      obtain ⟨r0, r1, r2, r3, r4, r5, rz⟩ := blk_ro P1.out
      have E := Lib.hid (change_err 23 P1.out (by omega) PE.out)
      go_wp2_with fail
      refine bodyPost_ret (results_ro_err rfl _ (w.heap.size + 1) rfl _ rfl _ RA.zero Ro.zero E.out.2) rfl ?_
      exact E.out.1.eq HVE.out
    cases dju
    rotate_left
    · have HVE : Hid (joinR R key = (Ro.zero, 23)) := by rw [Hid, HV.out, if_pos (.inr (.inl rfl))]
      obtain ⟨r0, r1, r2, r3, r4, r5, rz⟩ := blk_ro P1.out
      have E := Lib.hid (change_err 23 P1.out (by omega) PE.out)
      go_wp2_with fail
      refine bodyPost_ret (results_ro_err rfl _ (w.heap.size + 1) rfl _ rfl _ RA.zero Ro.zero E.out.2) rfl ?_
      exact E.out.1.eq HVE.out
    cases cju
    rotate_left
    · have HVE : Hid (joinR R key = (Ro.zero, 23)) := by rw [Hid, HV.out, if_pos (.inr (.inr rfl))]
      obtain ⟨r0, r1, r2, r3, r4, r5, rz⟩ := blk_ro P1.out
      have E := Lib.hid (change_err 23 P1.out (by omega) PE.out)
      go_wp2_with fail
      refine bodyPost_ret (results_ro_err rfl _ (w.heap.size + 1) rfl _ rfl _ RA.zero Ro.zero E.out.2) rfl ?_
      exact E.out.1.eq HVE.out
    have hsh' : Hid (dsh = csh) := by simpa [Hid] using hsh
    have HVS : Hid (joinR R key = (⟨R.sp, R.ks, R.ha, R.ep, nx R.ver, repl R.cs k 2 [⟨dlo, chi, dsh, nx R.ver, false⟩]⟩, 0)) := by rw [Hid, HV.out, if_neg (by simp [hsh'.out])]
    clear HV
    have QL : Hid (Blk (wc.setCell ⟨gl, 1, none⟩ (.string chi)) gl 45 #[.string dlo, .string chi, .int .i64 dsh, .int .i64 dver, .bool false]) := PL.out.set_ 1 _
    have Q0 : Hid (Blk (wc.setCell ⟨gl, 1, none⟩ (.string chi)) w.heap.size 30 (rarr ⟨KA, kn, kc, some ⟨b, off, none⟩, cn, cc⟩ R)) := P0.out.far (by show w.heap.size ≠ gl; omega) _
    have Q1 : Hid (Blk (wc.setCell ⟨gl, 1, none⟩ (.string chi)) (w.heap.size + 1) 30 (rarr RA.zero Ro.zero)) := P1.out.far (by show w.heap.size + 1 ≠ gl; omega) _
    have QE : Hid (Below w.heap.size w (wc.setCell ⟨gl, 1, none⟩ (.string chi))) := PE.out.setCell (by show w.heap.size ≤ gl; omega) _
    have l1 := PL.out.cell 1
    have u1 := PU.out.cell 1
    have zl := PL.out.frozen 1
    simp at l1 u1
    go_upto_region 8 with fail
    clear l1 u1 zl l2 l4 u2 u4 P0 P1 PE PL PU
    generalize wc.setCell ⟨gl, 1, none⟩ (.string chi) = w3 at *
    have l0 := QL.out.cell 0
    have l1 := QL.out.cell 1
    have l2 := QL.out.cell 2
    have l3 := QL.out.cell 3
    have l4 := QL.out.cell 4
    simp at l0 l1 l2 l3 l4
    obtain ⟨q0, q1, q2, q3, q4, q5, qz⟩ := blk_ro Q0.out
    simp only at q1 q5
    have AL := Lib.hid ((Below.refl w3.heap.size w3).alloc (Nat.le_refl _) (Obj.cells #[.string dlo, .string chi, .int .i64 dsh, .int .i64 dver, .bool false] 45))
    have HLB : Hid (Blk (w3.alloc (Obj.cells #[.string dlo, .string chi, .int .i64 dsh, .int .i64 dver, .bool false] 45)) w3.heap.size 45 (flat recC [⟨dlo, chi, dsh, dver, false⟩]).toArray) := Blk.new_at rfl
    have G0 := Lib.hid (Q0.out.step AL.out)
    have G1 := Lib.hid (Q1.out.step AL.out)
    have GE := Lib.hid (QE.out.step' AL.out)
    have HRP := Lib.hid (replace_any R ⟨KA, kn, kc, some ⟨b, off, none⟩, cn, cc⟩ k 2 w3.heap.size [⟨dlo, chi, dsh, dver, false⟩] (k : Nat) (2 : Nat) (w3.alloc (Obj.cells #[.string dlo, .string chi, .int .i64 dsh, .int .i64 dver, .bool false] 45)) (H.out.step GE.out) HLB.out hnk.out (by decide) (by simp) h80 rfl rfl)
    clear AL HLB
    go_wp2_with fail
    clear q0 q1 q2 q3 q4 q5 qz l0 l1 l2 l3 l4
    refine HRP.out.mono ?_
    rintro e w5 ⟨A5, c5, rfl, hown, hb5⟩
    have hG1 := G1.out.lt
    have hlen : (repl R.cs k 2 [⟨dlo, chi, dsh, nx R.ver, false⟩]).length * 56 ≤ reach := by
      have hrl := repl_len' (l := R.cs) (i := k) (n := 2) (new := [⟨dlo, chi, dsh, nx R.ver, false⟩])
      unfold reach
      simp only [List.length_cons, List.length_nil] at hrl
      omega
    have E := Lib.hid (change_end (lo := (w3.alloc (Obj.cells #[.string dlo, .string chi, .int .i64 dsh, .int .i64 dver, .bool false] 45)).heap.size) (R := ⟨R.sp, R.ks, R.ha, R.ep, nx R.ver, repl R.cs k 2 [⟨dlo, chi, dsh, nx R.ver, false⟩]⟩) (a := ⟨KA, kn, kc, A5, (repl R.cs k 2 [⟨dlo, chi, dsh, nx R.ver, false⟩]).length, c5⟩) rfl (G1.out.step hb5) (by omega) hG1 H.out.sp ((H.out.ks.toB (GE.out.step' hb5)).keep (Nat.le_refl _) fun b hF _ => ⟨.inl hF, rfl⟩) hown rfl hlen (GE.out.step' hb5))
    obtain ⟨r0, r1, r2, r3, r4, r5, rz⟩ := blk_ro (G1.out.step hb5)
    clear hown hb5 G0 G1 GE HRP
    go_wp2_with fail
    clear r0 r1 r2 r3 r4 r5 rz
    refine bodyPost_ret (results_ro_err rfl _ (w.heap.size + 1) rfl _ rfl _ ⟨KA, kn, kc, A5, (repl R.cs k 2 [⟨dlo, chi, dsh, nx R.ver, false⟩]).length, c5⟩ ⟨R.sp, R.ks, R.ha, R.ep, nx R.ver, repl R.cs k 2 [⟨dlo, chi, dsh, nx R.ver, false⟩]⟩ E.out.2) rfl ?_
    exact E.out.1.eq HVS.out

end Go.Proofs.YtgcklgkhdokchaaDoor

namespace Go.Proofs.YtgcklgkhdokchaaDoor
open Go.RowKit

set_option maxRecDepth 100000 in
set_option maxHeartbeats 800000 in
theorem rgive_any (R : Ro) (a : RA) (key : ByteArray) (z : Int) (w : World) (h : RR w a R) (h80 : R.cs.length ≤ 80) : Calls Tryd.prog 42 #[rval a R, .string key, .int .i64 z] w (RouOk (giveR R key z) w) := by
  obtain ⟨KA, kn, kc, CA, cn, cc⟩ := a
  have H := Lib.hid h
  clear h
  have B0 : Hid (Blk ((w.alloc (Obj.cells (rarr ⟨KA, kn, kc, CA, cn, cc⟩ R) 30)).alloc (Obj.cells (rarr RA.zero Ro.zero) 30)) w.heap.size 30 (rarr ⟨KA, kn, kc, CA, cn, cc⟩ R)) := (Blk.new_at rfl).alloc _
  have B1 : Hid (Blk ((w.alloc (Obj.cells (rarr ⟨KA, kn, kc, CA, cn, cc⟩ R) 30)).alloc (Obj.cells (rarr RA.zero Ro.zero) 30)) (w.heap.size + 1) 30 (rarr RA.zero Ro.zero)) := Blk.new_at (by simp)
  have BE : Hid (Below w.heap.size w ((w.alloc (Obj.cells (rarr ⟨KA, kn, kc, CA, cn, cc⟩ R) 30)).alloc (Obj.cells (rarr RA.zero Ro.zero) 30))) := ((Below.refl _ _).alloc (Nat.le_refl _) _).alloc (by simp) _
  go_enter Tryd.func42, Tryd.ntmps42
  go_upto_region 1 with fail
  change (Code.region 1 _ _).wp _ _ _ ((w.alloc (Obj.cells (rarr ⟨KA, kn, kc, CA, cn, cc⟩ R) 30)).alloc (Obj.cells (rarr RA.zero Ro.zero) 30))
  generalize (w.alloc (Obj.cells (rarr ⟨KA, kn, kc, CA, cn, cc⟩ R) 30)).alloc (Obj.cells (rarr RA.zero Ro.zero) 30) = wa at *
  obtain ⟨q0, q1, q2, q3, q4, q5, qz⟩ := blk_ro B0.out
  simp only at q1 q5
  go_wp2_with fail
  clear q0 q1 q2 q3 q4 q5 qz
  refine (rbegin_any R ⟨KA, kn, kc, CA, cn, cc⟩ key wa (H.out.step BE.out)).mono ?_
  rintro e w2 ⟨rfl, hb1⟩
  have F0 := Lib.hid (B0.out.step hb1)
  have F1 := Lib.hid (B1.out.step hb1)
  have FE := Lib.hid (BE.out.step' hb1)
  clear hb1 B0 B1 BE
  rcases idxI_range (begB key) R.cs with ⟨hf, _⟩ | ⟨i, c, hf, hic, hin, _⟩
  · rw [hf]
    have HVE : Hid (giveR R key z = (Ro.zero, 15)) := by unfold Hid giveR; rw [hf]; rfl
    obtain ⟨r0, r1, r2, r3, r4, r5, rz⟩ := blk_ro F1.out
    have E := Lib.hid (change_err 15 F1.out (by omega) FE.out)
    go_wp2_with fail
    refine bodyPost_ret (results_ro_err rfl _ (w.heap.size + 1) rfl _ rfl _ RA.zero Ro.zero E.out.2) rfl ?_
    exact E.out.1.eq HVE.out
  rw [hf]
  have HV : Hid (giveR R key z = if z < 0 ∨ 8 ≤ z then (Ro.zero, 1) else if c.sh = z ∨ c.ju = true then (Ro.zero, 23) else (⟨R.sp, R.ks, R.ha, R.ep, nx R.ver, touch (repl R.cs i 1 [⟨c.lo, c.hi, z, nx R.ver, c.ju⟩]) c.sh (nx R.ver)⟩, 0)) := by
    unfold Hid giveR
    rw [if_neg (by omega), hf, Int.toNat_natCast, hic]
  have hn : Hid (cn = R.cs.length) := H.out.cs.ln
  have HIC := Lib.hid hic
  clear hic hin hf
  obtain ⟨q0, q1, q2, q3, q4, q5, qz⟩ := blk_ro F0.out
  simp only at q1 q5
  have hicn : i < cn := by rw [hn.out]; exact (List.getElem?_eq_some_iff.1 HIC.out).1
  have hnk : Hid (i + 1 ≤ R.cs.length) := (List.getElem?_eq_some_iff.1 HIC.out).1
  obtain ⟨b, off, x, hA, hbl, hx, e0, e1, e2, e3, e4⟩ := H.out.cs.sr.at5 hicn
  rw [HIC.out] at hx
  injection hx with hx
  subst hx
  simp only at hA
  subst hA
  have bc := fun o => FE.out.cell (p := ⟨b, o, none⟩) hbl
  replace e0 := (bc _).trans e0
  replace e1 := (bc _).trans e1
  replace e2 := (bc _).trans e2
  replace e3 := (bc _).trans e3
  replace e4 := (bc _).trans e4
  clear bc
  obtain ⟨clo, chi, csh, cver, cju⟩ := c
  simp only at e0 e1 e2 e3 e4 HV
  by_cases hz0 : z < 0
  · have HVE : Hid (giveR R key z = (Ro.zero, 1)) := by rw [Hid, HV.out, if_pos (.inl hz0)]
    obtain ⟨r0, r1, r2, r3, r4, r5, rz⟩ := blk_ro F1.out
    have E := Lib.hid (change_err 1 F1.out (by omega) FE.out)
    go_wp2_with fail
    refine bodyPost_ret (results_ro_err rfl _ (w.heap.size + 1) rfl _ rfl _ RA.zero Ro.zero E.out.2) rfl ?_
    exact E.out.1.eq HVE.out
  by_cases hz8 : 8 ≤ z
  · have HVE : Hid (giveR R key z = (Ro.zero, 1)) := by rw [Hid, HV.out, if_pos (.inr hz8)]
    obtain ⟨r0, r1, r2, r3, r4, r5, rz⟩ := blk_ro F1.out
    have E := Lib.hid (change_err 1 F1.out (by omega) FE.out)
    go_wp2_with fail
    refine bodyPost_ret (results_ro_err rfl _ (w.heap.size + 1) rfl _ rfl _ RA.zero Ro.zero E.out.2) rfl ?_
    exact E.out.1.eq HVE.out
  cases hsz : (csh == z)
  rotate_left
  · have HVE : Hid (giveR R key z = (Ro.zero, 23)) := by rw [Hid, HV.out, if_neg (by omega), if_pos (.inl (by simpa using hsz))]
    go_upto_region 9 with fail
    clear q0 q1 q2 q3 q4 q5 qz e0 e1 e2 e3 e4
    have hU : w.heap.size + 1 < w2.heap.size := F1.out.lt
    have P0 := Lib.hid (F0.out.alloc (Obj.cells #[.string clo, .string chi, .int .i64 csh, .int .i64 cver, .bool cju] 45))
    have P1 := Lib.hid (F1.out.alloc (Obj.cells #[.string clo, .string chi, .int .i64 csh, .int .i64 cver, .bool cju] 45))
    have PE := Lib.hid (FE.out.alloc FE.out.size (Obj.cells #[.string clo, .string chi, .int .i64 csh, .int .i64 cver, .bool cju] 45))
    have PC : Hid (Blk (w2.alloc (Obj.cells #[.string clo, .string chi, .int .i64 csh, .int .i64 cver, .bool cju] 45)) w2.heap.size 45 #[.string clo, .string chi, .int .i64 csh, .int .i64 cver, .bool cju]) := Blk.new_at rfl
    change (Code.region 9 _ _).wp _ _ _ (w2.alloc (Obj.cells #[.string clo, .string chi, .int .i64 csh, .int .i64 cver, .bool cju] 45))
    generalize w2.alloc (Obj.cells #[.string clo, .string chi, .int .i64 csh, .int .i64 cver, .bool cju] 45) = w3 at *
    generalize w2.heap.size = U at *
    have u0 := PC.out.cell 0
    have u1 := PC.out.cell 1
    have u2 := PC.out.cell 2
    have u3 := PC.out.cell 3
    have u4 := PC.out.cell 4
    simp at u0 u1 u2 u3 u4
    obtain ⟨r0, r1, r2, r3, r4, r5, rz⟩ := blk_ro P1.out
    have E := Lib.hid (change_err 23 P1.out (by omega) PE.out)
    go_wp2_with fail
    refine bodyPost_ret (results_ro_err rfl _ (w.heap.size + 1) rfl _ rfl _ RA.zero Ro.zero E.out.2) rfl ?_
    exact E.out.1.eq HVE.out
  cases cju
  rotate_left
  · have HVE : Hid (giveR R key z = (Ro.zero, 23)) := by rw [Hid, HV.out, if_neg (by omega), if_pos (.inr rfl)]
    go_upto_region 9 with fail
    clear q0 q1 q2 q3 q4 q5 qz e0 e1 e2 e3 e4
    have hU : w.heap.size + 1 < w2.heap.size := F1.out.lt
    have P0 := Lib.hid (F0.out.alloc (Obj.cells #[.string clo, .string chi, .int .i64 csh, .int .i64 cver, .bool true] 45))
    have P1 := Lib.hid (F1.out.alloc (Obj.cells #[.string clo, .string chi, .int .i64 csh, .int .i64 cver, .bool true] 45))
    have PE := Lib.hid (FE.out.alloc FE.out.size (Obj.cells #[.string clo, .string chi, .int .i64 csh, .int .i64 cver, .bool true] 45))
    have PC : Hid (Blk (w2.alloc (Obj.cells #[.string clo, .string chi, .int .i64 csh, .int .i64 cver, .bool true] 45)) w2.heap.size 45 #[.string clo, .string chi, .int .i64 csh, .int .i64 cver, .bool true]) := Blk.new_at rfl
    change (Code.region 9 _ _).wp _ _ _ (w2.alloc (Obj.cells #[.string clo, .string chi, .int .i64 csh, .int .i64 cver, .bool true] 45))
    generalize w2.alloc (Obj.cells #[.string clo, .string chi, .int .i64 csh, .int .i64 cver, .bool true] 45) = w3 at *
    generalize w2.heap.size = U at *
    have u0 := PC.out.cell 0
    have u1 := PC.out.cell 1
    have u2 := PC.out.cell 2
    have u3 := PC.out.cell 3
    have u4 := PC.out.cell 4
    simp at u0 u1 u2 u3 u4
    obtain ⟨r0, r1, r2, r3, r4, r5, rz⟩ := blk_ro P1.out
    have E := Lib.hid (change_err 23 P1.out (by omega) PE.out)
    go_wp2_with fail
    refine bodyPost_ret (results_ro_err rfl _ (w.heap.size + 1) rfl _ rfl _ RA.zero Ro.zero E.out.2) rfl ?_
    exact E.out.1.eq HVE.out
  have HVS : Hid (giveR R key z = (⟨R.sp, R.ks, R.ha, R.ep, nx R.ver, touch (repl R.cs i 1 [⟨clo, chi, z, nx R.ver, false⟩]) csh (nx R.ver)⟩, 0)) := by
    rw [Hid, HV.out, if_neg (by omega), if_neg (by simpa using hsz)]
  go_upto_region 11 with fail
  clear q0 q1 q2 q3 q4 q5 qz e0 e1 e2 e3 e4
  have hU : w.heap.size + 1 < w2.heap.size := F1.out.lt
  have P0 := Lib.hid (F0.out.alloc (Obj.cells #[.string clo, .string chi, .int .i64 z, .int .i64 cver, .bool false] 45))
  have P1 := Lib.hid (F1.out.alloc (Obj.cells #[.string clo, .string chi, .int .i64 z, .int .i64 cver, .bool false] 45))
  have PE := Lib.hid (FE.out.alloc FE.out.size (Obj.cells #[.string clo, .string chi, .int .i64 z, .int .i64 cver, .bool false] 45))
  have PC : Hid (Blk (w2.alloc (Obj.cells #[.string clo, .string chi, .int .i64 z, .int .i64 cver, .bool false] 45)) w2.heap.size 45 #[.string clo, .string chi, .int .i64 z, .int .i64 cver, .bool false]) := Blk.new_at rfl
  change (Code.region 11 _ _).wp _ _ _ (w2.alloc (Obj.cells #[.string clo, .string chi, .int .i64 z, .int .i64 cver, .bool false] 45))
  generalize w2.alloc (Obj.cells #[.string clo, .string chi, .int .i64 z, .int .i64 cver, .bool false] 45) = w3 at *
  generalize w2.heap.size = U at *
  have u0 := PC.out.cell 0
  have u1 := PC.out.cell 1
  have u2 := PC.out.cell 2
  have u3 := PC.out.cell 3
  have u4 := PC.out.cell 4
  simp at u0 u1 u2 u3 u4
  obtain ⟨q0, q1, q2, q3, q4, q5, qz⟩ := blk_ro P0.out
  simp only at q1 q5
  have AL := Lib.hid ((Below.refl w3.heap.size w3).alloc (Nat.le_refl _) (Obj.cells #[.string clo, .string chi, .int .i64 z, .int .i64 cver, .bool false] 45))
  have HLB : Hid (Blk (w3.alloc (Obj.cells #[.string clo, .string chi, .int .i64 z, .int .i64 cver, .bool false] 45)) w3.heap.size 45 (flat recC [⟨clo, chi, z, cver, false⟩]).toArray) := Blk.new_at rfl
  have G0 := Lib.hid (P0.out.step AL.out)
  have G1 := Lib.hid (P1.out.step AL.out)
  have GE := Lib.hid (PE.out.step' AL.out)
  have HRP := Lib.hid (replace_any R ⟨KA, kn, kc, some ⟨b, off, none⟩, cn, cc⟩ i 1 w3.heap.size [⟨clo, chi, z, cver, false⟩] (i : Nat) (1 : Nat) (w3.alloc (Obj.cells #[.string clo, .string chi, .int .i64 z, .int .i64 cver, .bool false] 45)) (H.out.step GE.out) HLB.out hnk.out (by decide) (by simp) h80 rfl rfl)
  clear AL HLB
  go_wp2_with fail
  clear q0 q1 q2 q3 q4 q5 qz u0 u1 u2 u3 u4
  refine HRP.out.mono ?_
  rintro e w5 ⟨A5, c5, rfl, hown, hb5⟩
  have hG1 := G1.out.lt
  have hlen : (repl R.cs i 1 [⟨clo, chi, z, nx R.ver, false⟩]).length * 56 ≤ reach := by
    have hrl := repl_len' (l := R.cs) (i := i) (n := 1) (new := [⟨clo, chi, z, nx R.ver, false⟩])
    unfold reach
    simp only [List.length_cons, List.length_nil] at hrl
    omega
  replace hown : w5.ownsRow (w3.alloc (Obj.cells #[.string clo, .string chi, .int .i64 z, .int .i64 cver, .bool false] 45)).heap.size 45 5 (.slice A5 (repl R.cs i 1 [⟨clo, chi, z, nx R.ver, false⟩]).length c5) (repl R.cs i 1 [⟨clo, chi, z, nx R.ver, false⟩]).length (flat recC (repl R.cs i 1 [⟨clo, chi, z, nx R.ver, false⟩])) := hown
  have hvt : Vr w.heap.size (w3.alloc (Obj.cells #[.string clo, .string chi, .int .i64 z, .int .i64 cver, .bool false] 45)).heap.size w5.heap.size w.heap.size w ⟨KA, kn, kc, A5, (repl R.cs i 1 [⟨clo, chi, z, nx R.ver, false⟩]).length, c5⟩ R.nx (repl R.cs i 1 [⟨clo, chi, z, nx R.ver, false⟩]) (setR w5 w.heap.size ⟨KA, kn, kc, A5, (repl R.cs i 1 [⟨clo, chi, z, nx R.ver, false⟩]).length, c5⟩ R.nx) := by
    have hge := own_ge hown
    refine ⟨(G0.out.step hb5).putR, own_keep hown fun g hg => heap_setR _ _ _ _ g (by have := hge g hg; omega), fun g hg => own_lt hown hg, ?_, rfl, hlen, below_setR (GE.out.step' hb5) (Nat.le_refl _) _ _, ⟨Nat.le_refl _, by omega, hb5.size, by rw [size_setR]; exact Nat.le_refl _⟩⟩
    refine ((H.out.ks.toB (GE.out.step' hb5)).lt).keep (by rw [size_setR]; exact Nat.le_refl _) fun b hF _ => ⟨⟨⟨.inl hF.1, hF.2⟩, fun e => by have := hge b e; omega⟩, heap_setR _ _ _ _ b (by omega)⟩
  have V0 := Lib.hid hvt
  have V1 : Hid (Blk (setR w5 w.heap.size ⟨KA, kn, kc, A5, (repl R.cs i 1 [⟨clo, chi, z, nx R.ver, false⟩]).length, c5⟩ R.nx) (w.heap.size + 1) 30 (rarr RA.zero Ro.zero)) := (heap_setR _ _ _ _ _ (by omega)).trans (G1.out.step hb5)
  obtain ⟨q0, q1, q2, q3, q4, q5, qz⟩ := blk_ro (G0.out.step hb5)
  simp only at q1 q5
  have HLO : Hid (w.heap.size + 1 < (w3.alloc (Obj.cells #[.string clo, .string chi, .int .i64 z, .int .i64 cver, .bool false] 45)).heap.size) := hG1
  have HLN := Lib.hid hlen
  obtain ⟨S, hS⟩ : ∃ S, S = R.nx := ⟨_, rfl⟩
  have HVT : Hid (giveR R key z = (⟨S.sp, S.ks, S.ha, S.ep, S.ver, touch (repl R.cs i 1 [⟨clo, chi, z, nx R.ver, false⟩]) csh S.ver⟩, 0)) := by rw [Hid, HVS.out, hS]; rfl
  have hsp : Hid (S.sp.size ≤ reach) := by rw [Hid, hS]; exact H.out.sp
  rw [← hS] at V0 V1 ⊢
  clear hown hb5 G0 G1 GE HRP hvt hlen hG1 hS HVS HV
  rw [show List.map (verC (nx R.ver)) [(⟨clo, chi, z, cver, false⟩ : Ch)] = [⟨clo, chi, z, nx R.ver, false⟩] from rfl]
  obtain ⟨Lc, hLc⟩ : ∃ Lc, Lc = repl R.cs i 1 [⟨clo, chi, z, nx R.ver, false⟩] := ⟨_, rfl⟩
  rw [← hLc] at V0 V1 HVT HLN ⊢
  clear hLc
  generalize (w3.alloc (Obj.cells #[.string clo, .string chi, .int .i64 z, .int .i64 cver, .bool false] 45)).heap.size = lo at *
  go_upto_region 12 with fail
  clear q0 q1 q2 q3 q4 q5 qz
  change (Code.region 12 _ _).wp _ _ _ (setR w5 w.heap.size ⟨KA, kn, kc, A5, Lc.length, c5⟩ S)
  generalize setR w5 w.heap.size ⟨KA, kn, kc, A5, Lc.length, c5⟩ S = w6 at *
  obtain ⟨ln5, hln5⟩ : ∃ ln5, ln5 = Lc.length := ⟨_, rfl⟩
  rw [← hln5] at V0 HLN
  have HL5 := Lib.hid hln5
  clear hln5
  have hln6 : ln5 ≤ 140737488355328 := by have := HLN.out; unfold reach at this; omega
  go_wp2_with fail
  go_loopw [11] (fun v wr => ∃ k : Nat, k ≤ ln5 ∧ v = .int .i64 k ∧ idxI (shB csh) Lc = idxFrom (shB csh) (Lc.drop k) k ∧ wr = w6) (fun v _ => ln5 - (intOf v).toNat)
  case atStart => exact ⟨0, Nat.zero_le _, rfl, rfl, rfl⟩
  case round =>
    obtain ⟨k, hk, rfl, ha, rfl⟩ := hrel
    have HA := Lib.hid ha
    clear ha
    obtain ⟨q0, q1, q2, q3, q4, q5, qz⟩ := blk_ro V0.out.b0
    simp only at q1 q5
    by_cases hlt : k < ln5
    · obtain ⟨d, hd⟩ : ∃ d, Lc[k]? = some d := ⟨_, List.getElem?_eq_getElem (by rw [← HL5.out]; exact hlt)⟩
      have HK := Lib.hid hd
      have HX := Lib.hid (idxFrom_at (p := shB csh) hd)
      clear hd
      obtain ⟨dlo, dhi, dsh, dver, dju⟩ := d
      obtain ⟨g, hgA, hgl, hgh, hgc⟩ := V0.out.get HK.out
      simp only at hgA
      subst hgA
      have c2 := (hgc 2 _ rfl).1
      obtain ⟨c3, z3⟩ := hgc 3 _ rfl
      clear hgc
      cases hq : (dsh == csh)
      · have HF : Hid (idxI (shB csh) Lc = idxFrom (shB csh) (Lc.drop (k + 1)) (k + 1)) := by rw [Hid, HA.out, HX.out]; unfold shB; rw [hq]; rfl
        go_wp2_with fail
        go_roundw
        case rel => exact ⟨k + 1, by omega, by go_num, HF.out, trivial⟩
        case measure => simp [intOf]; omega
      · have HF : Hid (idxI (shB csh) Lc = (k : Int)) := by rw [Hid, HA.out, HX.out]; unfold shB; rw [hq]; rfl
        have HVU : Hid (giveR R key z = (⟨S.sp, S.ks, S.ha, S.ep, S.ver, Lc.set k ⟨dlo, dhi, dsh, S.ver, dju⟩⟩, 0)) := by
          rw [Hid, HVT.out]
          unfold touch
          rw [HF.out, if_neg (by omega), Int.toNat_natCast, HK.out]
        have Z0 := Lib.hid (V0.out.put (g := g) rfl HK.out (j := 3) (v := .int .i64 S.ver) (c' := ⟨dlo, dhi, dsh, S.ver, dju⟩) (by omega) rfl)
        have Z1 := Lib.hid (V1.out.far (p := ⟨g, k * 5 + 3, none⟩) (by show w.heap.size + 1 ≠ g; have := HLO.out; omega) (.int .i64 S.ver))
        go_upto_region 17 with fail
        clear q0 q1 q2 q3 q4 q5 qz c2 c3 z3 V0 V1
        generalize wr.setCell ⟨g, k * 5 + 3, none⟩ (.int .i64 S.ver) = w8 at *
        obtain ⟨q0, q1, q2, q3, q4, q5, qz⟩ := blk_ro Z0.out.b0
        simp only at q1 q5
        obtain ⟨r0, r1, r2, r3, r4, r5, rz⟩ := blk_ro Z1.out
        have E := Lib.hid (change_end (R := ⟨S.sp, S.ks, S.ha, S.ep, S.ver, Lc.set k ⟨dlo, dhi, dsh, S.ver, dju⟩⟩) (a := ⟨KA, kn, kc, some ⟨g, 0, none⟩, ln5, c5⟩) rfl Z1.out (by omega) (by have := HLO.out; omega) hsp.out (Z0.out.ks.keep (Nat.le_refl _) fun b hF _ => ⟨hF.1.1, rfl⟩) Z0.out.own Z0.out.ln Z0.out.sz Z0.out.bel)
        clear Z0 Z1
        go_wp2_with fail
        clear q0 q1 q2 q3 q4 q5 qz r0 r1 r2 r3 r4 r5 rz
        refine bodyPost_ret (results_ro_err rfl _ (w.heap.size + 1) rfl _ rfl _ ⟨KA, kn, kc, some ⟨g, 0, none⟩, ln5, c5⟩ _ E.out.2) rfl ?_
        exact E.out.1.eq HVU.out
    · have HF : Hid (idxI (shB csh) Lc = -1) := by rw [Hid, HA.out]; exact idxFrom_end (by rw [← HL5.out]; omega)
      have HVU : Hid (giveR R key z = (⟨S.sp, S.ks, S.ha, S.ep, S.ver, Lc⟩, 0)) := by
        rw [Hid, HVT.out]
        unfold touch
        rw [HF.out]
        rfl
      obtain ⟨r0, r1, r2, r3, r4, r5, rz⟩ := blk_ro V1.out
      have E := Lib.hid (change_end (R := ⟨S.sp, S.ks, S.ha, S.ep, S.ver, Lc⟩) (a := ⟨KA, kn, kc, A5, ln5, c5⟩) rfl V1.out (by omega) (by have := HLO.out; omega) hsp.out (V0.out.ks.keep (Nat.le_refl _) fun b hF _ => ⟨hF.1.1, rfl⟩) V0.out.own V0.out.ln V0.out.sz V0.out.bel)
      clear V0 V1
      go_wp2_with fail
      clear q0 q1 q2 q3 q4 q5 qz r0 r1 r2 r3 r4 r5 rz
      refine bodyPost_ret (results_ro_err rfl _ (w.heap.size + 1) rfl _ rfl _ ⟨KA, kn, kc, A5, ln5, c5⟩ _ E.out.2) rfl ?_
      exact E.out.1.eq HVU.out

end Go.Proofs.YtgcklgkhdokchaaDoor
